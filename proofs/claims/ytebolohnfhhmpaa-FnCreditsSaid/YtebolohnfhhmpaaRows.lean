/-
  No cell of these rows narrows 'for every input' (looked for: loops, veiled, ifaces, maps, wideKeys, modest, calm, conditions, laid).
  DERIVED. THE GIVEN ROWS OF THIS SEAT. 9 by the template 'for every input the law returns true; each argument reads behind the call as it read before'; 0 by the template 'total and deterministic' (their statements: YtebolohnfhhmpaaTotals.lean).
  GIVEN WITH THE SEED: the statements are not yours to turn. If you find one false, say at which input.
  Laid BY PROGRAM, IN A SANDBOX (cutbox-rows.mjs): the forced cells as the released guide's own fill.sh prints them over the translation 582a539c16feee0d… (all of the seat's roots in one cut). By AI agents, Wed Nov 11 2026. No macro, syntax, notation, axiom, sorry.
-/
import Derived.Test.YtebolohnfhhmpaaChecked
import GoSem.Claim
import GoSem.ClaimJoined
import GoSem.ClaimMapViews
import Derived.JoinedTies
import Derived.KernelRfl
namespace Go.Proofs.Ytebolohnfhhmpaa
/- THE CELL 'sum', in the pinned program and in every row, IS THE sha256 OF THE DUMP (.gsa) THAT YtebolohnfhhmpaaProg.lean LOADS. Nothing in Lean hashes anything: it is a label: what it is worth is what the hold of that sum in a sandbox is worth. -/
noncomputable def Try.pinned : Pinned := { name := "ytebolohnfhhmpaa", sum := "582a539c16feee0d53b70191f4e72cf9129528721f73ca5e88ae234ba410e60d", checked := Try.checked }
namespace Rows
def none {H : Type} : Left H := { results := [], args := [] }

/-- 'laws.FnExactIsCredit': WHATEVER THE INPUT: true; the input reads as it did. -/
def fnExactIsCreditSpec : ChangeSpec := { name := "fnExactIsCredit", fn := fun _ => fun
  | [d] => { results := [.lit (.bool true)], args := [d] }
  | _ => none }
def fnExactIsCreditRow : OpenClaim := { program := "ytebolohnfhhmpaa", sum := "582a539c16feee0d53b70191f4e72cf9129528721f73ca5e88ae234ba410e60d", func := "loop.example/g01633/laws.FnExactIsCredit", spec := "fnExactIsCredit", apart := false }
def FnExactIsCreditSaid : Prop := fnExactIsCreditRow.holds Try.pinned (OpenSpec.ofChange fnExactIsCreditSpec)

/-- ITS FALSE NEIGHBOUR: 'it returns false'. Refute it at one input. -/
def fnExactIsCreditWrong : ChangeSpec := { name := "fnExactIsCredit", fn := fun _ => fun
  | [d] => { results := [.lit (.bool false)], args := [d] }
  | _ => none }
def FnExactIsCreditWrongFalsely : Prop := fnExactIsCreditRow.holds Try.pinned (OpenSpec.ofChange fnExactIsCreditWrong)

/-- 'laws.FnExactMustTell': WHATEVER THE INPUT: true; the input reads as it did. -/
def fnExactMustTellSpec : ChangeSpec := { name := "fnExactMustTell", fn := fun _ => fun
  | [d] => { results := [.lit (.bool true)], args := [d] }
  | _ => none }
def fnExactMustTellRow : OpenClaim := { program := "ytebolohnfhhmpaa", sum := "582a539c16feee0d53b70191f4e72cf9129528721f73ca5e88ae234ba410e60d", func := "loop.example/g01633/laws.FnExactMustTell", spec := "fnExactMustTell", apart := false }
def FnExactMustTellSaid : Prop := fnExactMustTellRow.holds Try.pinned (OpenSpec.ofChange fnExactMustTellSpec)

/-- ITS FALSE NEIGHBOUR: 'it returns false'. Refute it at one input. -/
def fnExactMustTellWrong : ChangeSpec := { name := "fnExactMustTell", fn := fun _ => fun
  | [d] => { results := [.lit (.bool false)], args := [d] }
  | _ => none }
def FnExactMustTellWrongFalsely : Prop := fnExactMustTellRow.holds Try.pinned (OpenSpec.ofChange fnExactMustTellWrong)

/-- 'laws.FnExactCreditLeft': WHATEVER THE INPUT: true; the input reads as it did. -/
def fnExactCreditLeftSpec : ChangeSpec := { name := "fnExactCreditLeft", fn := fun _ => fun
  | [d] => { results := [.lit (.bool true)], args := [d] }
  | _ => none }
def fnExactCreditLeftRow : OpenClaim := { program := "ytebolohnfhhmpaa", sum := "582a539c16feee0d53b70191f4e72cf9129528721f73ca5e88ae234ba410e60d", func := "loop.example/g01633/laws.FnExactCreditLeft", spec := "fnExactCreditLeft", apart := false }
def FnExactCreditLeftSaid : Prop := fnExactCreditLeftRow.holds Try.pinned (OpenSpec.ofChange fnExactCreditLeftSpec)

/-- ITS FALSE NEIGHBOUR: 'it returns false'. Refute it at one input. -/
def fnExactCreditLeftWrong : ChangeSpec := { name := "fnExactCreditLeft", fn := fun _ => fun
  | [d] => { results := [.lit (.bool false)], args := [d] }
  | _ => none }
def FnExactCreditLeftWrongFalsely : Prop := fnExactCreditLeftRow.holds Try.pinned (OpenSpec.ofChange fnExactCreditLeftWrong)

/-- 'laws.FnExactNewCredit': WHATEVER THE INPUT: true; the input reads as it did. -/
def fnExactNewCreditSpec : ChangeSpec := { name := "fnExactNewCredit", fn := fun _ => fun
  | [d] => { results := [.lit (.bool true)], args := [d] }
  | _ => none }
def fnExactNewCreditRow : OpenClaim := { program := "ytebolohnfhhmpaa", sum := "582a539c16feee0d53b70191f4e72cf9129528721f73ca5e88ae234ba410e60d", func := "loop.example/g01633/laws.FnExactNewCredit", spec := "fnExactNewCredit", apart := false }
def FnExactNewCreditSaid : Prop := fnExactNewCreditRow.holds Try.pinned (OpenSpec.ofChange fnExactNewCreditSpec)

/-- ITS FALSE NEIGHBOUR: 'it returns false'. Refute it at one input. -/
def fnExactNewCreditWrong : ChangeSpec := { name := "fnExactNewCredit", fn := fun _ => fun
  | [d] => { results := [.lit (.bool false)], args := [d] }
  | _ => none }
def FnExactNewCreditWrongFalsely : Prop := fnExactNewCreditRow.holds Try.pinned (OpenSpec.ofChange fnExactNewCreditWrong)

/-- 'laws.FnExactNoteBlocked': WHATEVER THE INPUT: true; the input reads as it did. -/
def fnExactNoteBlockedSpec : ChangeSpec := { name := "fnExactNoteBlocked", fn := fun _ => fun
  | [d] => { results := [.lit (.bool true)], args := [d] }
  | _ => none }
def fnExactNoteBlockedRow : OpenClaim := { program := "ytebolohnfhhmpaa", sum := "582a539c16feee0d53b70191f4e72cf9129528721f73ca5e88ae234ba410e60d", func := "loop.example/g01633/laws.FnExactNoteBlocked", spec := "fnExactNoteBlocked", apart := false }
def FnExactNoteBlockedSaid : Prop := fnExactNoteBlockedRow.holds Try.pinned (OpenSpec.ofChange fnExactNoteBlockedSpec)

/-- ITS FALSE NEIGHBOUR: 'it returns false'. Refute it at one input. -/
def fnExactNoteBlockedWrong : ChangeSpec := { name := "fnExactNoteBlocked", fn := fun _ => fun
  | [d] => { results := [.lit (.bool false)], args := [d] }
  | _ => none }
def FnExactNoteBlockedWrongFalsely : Prop := fnExactNoteBlockedRow.holds Try.pinned (OpenSpec.ofChange fnExactNoteBlockedWrong)

/-- 'laws.FnExactClearBlocked': WHATEVER THE INPUT: true; the input reads as it did. -/
def fnExactClearBlockedSpec : ChangeSpec := { name := "fnExactClearBlocked", fn := fun _ => fun
  | [d] => { results := [.lit (.bool true)], args := [d] }
  | _ => none }
def fnExactClearBlockedRow : OpenClaim := { program := "ytebolohnfhhmpaa", sum := "582a539c16feee0d53b70191f4e72cf9129528721f73ca5e88ae234ba410e60d", func := "loop.example/g01633/laws.FnExactClearBlocked", spec := "fnExactClearBlocked", apart := false }
def FnExactClearBlockedSaid : Prop := fnExactClearBlockedRow.holds Try.pinned (OpenSpec.ofChange fnExactClearBlockedSpec)

/-- ITS FALSE NEIGHBOUR: 'it returns false'. Refute it at one input. -/
def fnExactClearBlockedWrong : ChangeSpec := { name := "fnExactClearBlocked", fn := fun _ => fun
  | [d] => { results := [.lit (.bool false)], args := [d] }
  | _ => none }
def FnExactClearBlockedWrongFalsely : Prop := fnExactClearBlockedRow.holds Try.pinned (OpenSpec.ofChange fnExactClearBlockedWrong)

/-- 'laws.FnExactRaiseLimit': WHATEVER THE INPUT: true; the input reads as it did. -/
def fnExactRaiseLimitSpec : ChangeSpec := { name := "fnExactRaiseLimit", fn := fun _ => fun
  | [d1, d2] => { results := [.lit (.bool true)], args := [d1, d2] }
  | _ => none }
def fnExactRaiseLimitRow : OpenClaim := { program := "ytebolohnfhhmpaa", sum := "582a539c16feee0d53b70191f4e72cf9129528721f73ca5e88ae234ba410e60d", func := "loop.example/g01633/laws.FnExactRaiseLimit", spec := "fnExactRaiseLimit", apart := false }
def FnExactRaiseLimitSaid : Prop := fnExactRaiseLimitRow.holds Try.pinned (OpenSpec.ofChange fnExactRaiseLimitSpec)

/-- ITS FALSE NEIGHBOUR: 'it returns false'. Refute it at one input. -/
def fnExactRaiseLimitWrong : ChangeSpec := { name := "fnExactRaiseLimit", fn := fun _ => fun
  | [d1, d2] => { results := [.lit (.bool false)], args := [d1, d2] }
  | _ => none }
def FnExactRaiseLimitWrongFalsely : Prop := fnExactRaiseLimitRow.holds Try.pinned (OpenSpec.ofChange fnExactRaiseLimitWrong)

/-- 'laws.FnExactUseCredit': WHATEVER THE INPUT: true; the input reads as it did. -/
def fnExactUseCreditSpec : ChangeSpec := { name := "fnExactUseCredit", fn := fun _ => fun
  | [d1, d2] => { results := [.lit (.bool true)], args := [d1, d2] }
  | _ => none }
def fnExactUseCreditRow : OpenClaim := { program := "ytebolohnfhhmpaa", sum := "582a539c16feee0d53b70191f4e72cf9129528721f73ca5e88ae234ba410e60d", func := "loop.example/g01633/laws.FnExactUseCredit", spec := "fnExactUseCredit", apart := false }
def FnExactUseCreditSaid : Prop := fnExactUseCreditRow.holds Try.pinned (OpenSpec.ofChange fnExactUseCreditSpec)

/-- ITS FALSE NEIGHBOUR: 'it returns false'. Refute it at one input. -/
def fnExactUseCreditWrong : ChangeSpec := { name := "fnExactUseCredit", fn := fun _ => fun
  | [d1, d2] => { results := [.lit (.bool false)], args := [d1, d2] }
  | _ => none }
def FnExactUseCreditWrongFalsely : Prop := fnExactUseCreditRow.holds Try.pinned (OpenSpec.ofChange fnExactUseCreditWrong)

/-- 'laws.FnCredits': WHATEVER THE INPUT: true; the input reads as it did. -/
def fnCreditsSpec : ChangeSpec := { name := "fnCredits", fn := fun _ => fun
  | [d] => { results := [.lit (.bool true)], args := [d] }
  | _ => none }
def fnCreditsRow : OpenClaim := { program := "ytebolohnfhhmpaa", sum := "582a539c16feee0d53b70191f4e72cf9129528721f73ca5e88ae234ba410e60d", func := "loop.example/g01633/laws.FnCredits", spec := "fnCredits", apart := false }
def FnCreditsSaid : Prop := fnCreditsRow.holds Try.pinned (OpenSpec.ofChange fnCreditsSpec)

/-- ITS FALSE NEIGHBOUR: 'it returns false'. Refute it at one input. -/
def fnCreditsWrong : ChangeSpec := { name := "fnCredits", fn := fun _ => fun
  | [d] => { results := [.lit (.bool false)], args := [d] }
  | _ => none }
def FnCreditsWrongFalsely : Prop := fnCreditsRow.holds Try.pinned (OpenSpec.ofChange fnCreditsWrong)

/- THE SECOND FORM. 'bulk': how many values and letters a reading holds, each counted each time it is reached (what is shared counts as often as it is met; a slice's spare places count too). A statement '..UptoSaid' is the law's where the arguments, and the package variables that the reading takes, are together of bulk at most 1048576: NARROWER than '..Said'. Prove '..Said' where nothing that the law and all that it calls make is longer than what came in: it says more and counts as full. Else prove '..UptoSaid'. A law counts once. -/
mutual
def uptoBulk {H : Type} : DataW H → Nat
  | .lit (.string bytes) => bytes.length + 1
  | .lit _ => 1
  | .nil => 1
  | .ptr d => uptoBulk d + 1
  | .slice elems spare => uptoBulkAll elems + uptoBulkAll spare + 1
  | .agg parts => uptoBulkAll parts + 1
  | .iface _ d => uptoBulk d + 1
  | .map entries => uptoBulkEntries entries + 1
  | .held _ => 1
def uptoBulkAll {H : Type} : List (DataW H) → Nat
  | [] => 0
  | d :: r => uptoBulk d + uptoBulkAll r
def uptoBulkEntries {H : Type} : List (Lit × DataW H) → Nat
  | [] => 0
  | x :: r => uptoBulkEntry x + uptoBulkEntries r
def uptoBulkEntry {H : Type} : Lit × DataW H → Nat
  | (.string bytes, d) => bytes.length + uptoBulk d + 1
  | (_, d) => uptoBulk d + 1
 end
def uptoSmall : (H : Type) → List (DataW H) → Bool := fun _ ds => decide (uptoBulkAll ds ≤ 1048576)
def OpenSpec.upto (s : _root_.Go.ChangeSpec) : _root_.Go.OpenSpec := { _root_.Go.OpenSpec.ofChange s with cond := some uptoSmall }

/-- 'laws.FnExactIsCredit', WHERE WHAT IT READS IS OF BULK AT MOST 1048576: true; the input reads as it did. -/
def fnExactIsCreditUptoRow : OpenClaim := { program := "ytebolohnfhhmpaa", sum := "582a539c16feee0d53b70191f4e72cf9129528721f73ca5e88ae234ba410e60d", func := "loop.example/g01633/laws.FnExactIsCredit", spec := "fnExactIsCredit", apart := false, narrowed := true }
def FnExactIsCreditUptoSaid : Prop := fnExactIsCreditUptoRow.holds Try.pinned (OpenSpec.upto fnExactIsCreditSpec)

/-- 'laws.FnExactMustTell', WHERE WHAT IT READS IS OF BULK AT MOST 1048576: true; the input reads as it did. -/
def fnExactMustTellUptoRow : OpenClaim := { program := "ytebolohnfhhmpaa", sum := "582a539c16feee0d53b70191f4e72cf9129528721f73ca5e88ae234ba410e60d", func := "loop.example/g01633/laws.FnExactMustTell", spec := "fnExactMustTell", apart := false, narrowed := true }
def FnExactMustTellUptoSaid : Prop := fnExactMustTellUptoRow.holds Try.pinned (OpenSpec.upto fnExactMustTellSpec)

/-- 'laws.FnExactCreditLeft', WHERE WHAT IT READS IS OF BULK AT MOST 1048576: true; the input reads as it did. -/
def fnExactCreditLeftUptoRow : OpenClaim := { program := "ytebolohnfhhmpaa", sum := "582a539c16feee0d53b70191f4e72cf9129528721f73ca5e88ae234ba410e60d", func := "loop.example/g01633/laws.FnExactCreditLeft", spec := "fnExactCreditLeft", apart := false, narrowed := true }
def FnExactCreditLeftUptoSaid : Prop := fnExactCreditLeftUptoRow.holds Try.pinned (OpenSpec.upto fnExactCreditLeftSpec)

/-- 'laws.FnExactNewCredit', WHERE WHAT IT READS IS OF BULK AT MOST 1048576: true; the input reads as it did. -/
def fnExactNewCreditUptoRow : OpenClaim := { program := "ytebolohnfhhmpaa", sum := "582a539c16feee0d53b70191f4e72cf9129528721f73ca5e88ae234ba410e60d", func := "loop.example/g01633/laws.FnExactNewCredit", spec := "fnExactNewCredit", apart := false, narrowed := true }
def FnExactNewCreditUptoSaid : Prop := fnExactNewCreditUptoRow.holds Try.pinned (OpenSpec.upto fnExactNewCreditSpec)

/-- 'laws.FnExactNoteBlocked', WHERE WHAT IT READS IS OF BULK AT MOST 1048576: true; the input reads as it did. -/
def fnExactNoteBlockedUptoRow : OpenClaim := { program := "ytebolohnfhhmpaa", sum := "582a539c16feee0d53b70191f4e72cf9129528721f73ca5e88ae234ba410e60d", func := "loop.example/g01633/laws.FnExactNoteBlocked", spec := "fnExactNoteBlocked", apart := false, narrowed := true }
def FnExactNoteBlockedUptoSaid : Prop := fnExactNoteBlockedUptoRow.holds Try.pinned (OpenSpec.upto fnExactNoteBlockedSpec)

/-- 'laws.FnExactClearBlocked', WHERE WHAT IT READS IS OF BULK AT MOST 1048576: true; the input reads as it did. -/
def fnExactClearBlockedUptoRow : OpenClaim := { program := "ytebolohnfhhmpaa", sum := "582a539c16feee0d53b70191f4e72cf9129528721f73ca5e88ae234ba410e60d", func := "loop.example/g01633/laws.FnExactClearBlocked", spec := "fnExactClearBlocked", apart := false, narrowed := true }
def FnExactClearBlockedUptoSaid : Prop := fnExactClearBlockedUptoRow.holds Try.pinned (OpenSpec.upto fnExactClearBlockedSpec)

/-- 'laws.FnExactRaiseLimit', WHERE WHAT IT READS IS OF BULK AT MOST 1048576: true; the input reads as it did. -/
def fnExactRaiseLimitUptoRow : OpenClaim := { program := "ytebolohnfhhmpaa", sum := "582a539c16feee0d53b70191f4e72cf9129528721f73ca5e88ae234ba410e60d", func := "loop.example/g01633/laws.FnExactRaiseLimit", spec := "fnExactRaiseLimit", apart := false, narrowed := true }
def FnExactRaiseLimitUptoSaid : Prop := fnExactRaiseLimitUptoRow.holds Try.pinned (OpenSpec.upto fnExactRaiseLimitSpec)

/-- 'laws.FnExactUseCredit', WHERE WHAT IT READS IS OF BULK AT MOST 1048576: true; the input reads as it did. -/
def fnExactUseCreditUptoRow : OpenClaim := { program := "ytebolohnfhhmpaa", sum := "582a539c16feee0d53b70191f4e72cf9129528721f73ca5e88ae234ba410e60d", func := "loop.example/g01633/laws.FnExactUseCredit", spec := "fnExactUseCredit", apart := false, narrowed := true }
def FnExactUseCreditUptoSaid : Prop := fnExactUseCreditUptoRow.holds Try.pinned (OpenSpec.upto fnExactUseCreditSpec)

/-- 'laws.FnCredits', WHERE WHAT IT READS IS OF BULK AT MOST 1048576: true; the input reads as it did. -/
def fnCreditsUptoRow : OpenClaim := { program := "ytebolohnfhhmpaa", sum := "582a539c16feee0d53b70191f4e72cf9129528721f73ca5e88ae234ba410e60d", func := "loop.example/g01633/laws.FnCredits", spec := "fnCredits", apart := false, narrowed := true }
def FnCreditsUptoSaid : Prop := fnCreditsUptoRow.holds Try.pinned (OpenSpec.upto fnCreditsSpec)

end Rows
end Go.Proofs.Ytebolohnfhhmpaa

/-
  No cell of these rows narrows 'for every input' (looked for: loops, veiled, ifaces, maps, wideKeys, modest, calm, conditions, laid).
  DERIVED. THE GIVEN ROWS OF THIS SEAT. 8 by the template 'for every input the law returns true; each argument reads behind the call as it read before'; 0 by the template 'total and deterministic' (their statements: YteebkiochnhnhaaTotals.lean).
  GIVEN WITH THE SEED: the statements are not yours to turn. If you find one false, say at which input.
  Laid BY PROGRAM, IN A SANDBOX (cutbox-rows.mjs): the forced cells as the released guide's own fill.sh prints them over the translation 0e431e7ed86b3c51… (all of the seat's roots in one cut). By AI agents, Wed Nov 11 2026. No macro, syntax, notation, axiom, sorry.
-/
import Derived.Test.YteebkiochnhnhaaChecked
import GoSem.Claim
import GoSem.ClaimJoined
import GoSem.ClaimMapViews
import Derived.JoinedTies
import Derived.KernelRfl
namespace Go.Proofs.Yteebkiochnhnhaa
/- THE CELL 'sum', in the pinned program and in every row, IS THE sha256 OF THE DUMP (.gsa) THAT YteebkiochnhnhaaProg.lean LOADS. Nothing in Lean hashes anything: it is a label: what it is worth is what the hold of that sum in a sandbox is worth. -/
noncomputable def Try.pinned : Pinned := { name := "yteebkiochnhnhaa", sum := "0e431e7ed86b3c51055c237857ce12771e717453adbf9d52901c39931eb94d26", checked := Try.checked }
namespace Rows
def none {H : Type} : Left H := { results := [], args := [] }

/-- 'laws.FnExactNewRing': WHATEVER THE INPUT: true; the input reads as it did. -/
def fnExactNewRingSpec : ChangeSpec := { name := "fnExactNewRing", fn := fun _ => fun
  | [d] => { results := [.lit (.bool true)], args := [d] }
  | _ => none }
def fnExactNewRingRow : OpenClaim := { program := "yteebkiochnhnhaa", sum := "0e431e7ed86b3c51055c237857ce12771e717453adbf9d52901c39931eb94d26", func := "loop.example/g01633/laws.FnExactNewRing", spec := "fnExactNewRing", apart := false }
def FnExactNewRingSaid : Prop := fnExactNewRingRow.holds Try.pinned (OpenSpec.ofChange fnExactNewRingSpec)

/-- ITS FALSE NEIGHBOUR: 'it returns false'. Refute it at one input. -/
def fnExactNewRingWrong : ChangeSpec := { name := "fnExactNewRing", fn := fun _ => fun
  | [d] => { results := [.lit (.bool false)], args := [d] }
  | _ => none }
def FnExactNewRingWrongFalsely : Prop := fnExactNewRingRow.holds Try.pinned (OpenSpec.ofChange fnExactNewRingWrong)

/-- 'laws.FnExactEqualRings': WHATEVER THE INPUT: true; the input reads as it did. -/
def fnExactEqualRingsSpec : ChangeSpec := { name := "fnExactEqualRings", fn := fun _ => fun
  | [d1, d2] => { results := [.lit (.bool true)], args := [d1, d2] }
  | _ => none }
def fnExactEqualRingsRow : OpenClaim := { program := "yteebkiochnhnhaa", sum := "0e431e7ed86b3c51055c237857ce12771e717453adbf9d52901c39931eb94d26", func := "loop.example/g01633/laws.FnExactEqualRings", spec := "fnExactEqualRings", apart := false }
def FnExactEqualRingsSaid : Prop := fnExactEqualRingsRow.holds Try.pinned (OpenSpec.ofChange fnExactEqualRingsSpec)

/-- ITS FALSE NEIGHBOUR: 'it returns false'. Refute it at one input. -/
def fnExactEqualRingsWrong : ChangeSpec := { name := "fnExactEqualRings", fn := fun _ => fun
  | [d1, d2] => { results := [.lit (.bool false)], args := [d1, d2] }
  | _ => none }
def FnExactEqualRingsWrongFalsely : Prop := fnExactEqualRingsRow.holds Try.pinned (OpenSpec.ofChange fnExactEqualRingsWrong)

/-- 'laws.FnExactIsRing': WHATEVER THE INPUT: true; the input reads as it did. -/
def fnExactIsRingSpec : ChangeSpec := { name := "fnExactIsRing", fn := fun _ => fun
  | [d] => { results := [.lit (.bool true)], args := [d] }
  | _ => none }
def fnExactIsRingRow : OpenClaim := { program := "yteebkiochnhnhaa", sum := "0e431e7ed86b3c51055c237857ce12771e717453adbf9d52901c39931eb94d26", func := "loop.example/g01633/laws.FnExactIsRing", spec := "fnExactIsRing", unfollowed := true, recurses := true, apart := false }
def FnExactIsRingSaid : Prop := fnExactIsRingRow.holds Try.pinned (OpenSpec.ofChange fnExactIsRingSpec)

/-- ITS FALSE NEIGHBOUR: 'it returns false'. Refute it at one input. -/
def fnExactIsRingWrong : ChangeSpec := { name := "fnExactIsRing", fn := fun _ => fun
  | [d] => { results := [.lit (.bool false)], args := [d] }
  | _ => none }
def FnExactIsRingWrongFalsely : Prop := fnExactIsRingRow.holds Try.pinned (OpenSpec.ofChange fnExactIsRingWrong)

/-- 'laws.FnExactRoomOf': WHATEVER THE INPUT: true; the input reads as it did. -/
def fnExactRoomOfSpec : ChangeSpec := { name := "fnExactRoomOf", fn := fun _ => fun
  | [d] => { results := [.lit (.bool true)], args := [d] }
  | _ => none }
def fnExactRoomOfRow : OpenClaim := { program := "yteebkiochnhnhaa", sum := "0e431e7ed86b3c51055c237857ce12771e717453adbf9d52901c39931eb94d26", func := "loop.example/g01633/laws.FnExactRoomOf", spec := "fnExactRoomOf", unfollowed := true, recurses := true, apart := false }
def FnExactRoomOfSaid : Prop := fnExactRoomOfRow.holds Try.pinned (OpenSpec.ofChange fnExactRoomOfSpec)

/-- ITS FALSE NEIGHBOUR: 'it returns false'. Refute it at one input. -/
def fnExactRoomOfWrong : ChangeSpec := { name := "fnExactRoomOf", fn := fun _ => fun
  | [d] => { results := [.lit (.bool false)], args := [d] }
  | _ => none }
def FnExactRoomOfWrongFalsely : Prop := fnExactRoomOfRow.holds Try.pinned (OpenSpec.ofChange fnExactRoomOfWrong)

/-- 'laws.FnExactPeekRing': WHATEVER THE INPUT: true; the input reads as it did. -/
def fnExactPeekRingSpec : ChangeSpec := { name := "fnExactPeekRing", fn := fun _ => fun
  | [d1, d2, d3] => { results := [.lit (.bool true)], args := [d1, d2, d3] }
  | _ => none }
def fnExactPeekRingRow : OpenClaim := { program := "yteebkiochnhnhaa", sum := "0e431e7ed86b3c51055c237857ce12771e717453adbf9d52901c39931eb94d26", func := "loop.example/g01633/laws.FnExactPeekRing", spec := "fnExactPeekRing", unfollowed := true, recurses := true, apart := false }
def FnExactPeekRingSaid : Prop := fnExactPeekRingRow.holds Try.pinned (OpenSpec.ofChange fnExactPeekRingSpec)

/-- ITS FALSE NEIGHBOUR: 'it returns false'. Refute it at one input. -/
def fnExactPeekRingWrong : ChangeSpec := { name := "fnExactPeekRing", fn := fun _ => fun
  | [d1, d2, d3] => { results := [.lit (.bool false)], args := [d1, d2, d3] }
  | _ => none }
def FnExactPeekRingWrongFalsely : Prop := fnExactPeekRingRow.holds Try.pinned (OpenSpec.ofChange fnExactPeekRingWrong)

/-- 'laws.FnExactDropRing': WHATEVER THE INPUT: true; the input reads as it did. -/
def fnExactDropRingSpec : ChangeSpec := { name := "fnExactDropRing", fn := fun _ => fun
  | [d1, d2] => { results := [.lit (.bool true)], args := [d1, d2] }
  | _ => none }
def fnExactDropRingRow : OpenClaim := { program := "yteebkiochnhnhaa", sum := "0e431e7ed86b3c51055c237857ce12771e717453adbf9d52901c39931eb94d26", func := "loop.example/g01633/laws.FnExactDropRing", spec := "fnExactDropRing", unfollowed := true, recurses := true, apart := false }
def FnExactDropRingSaid : Prop := fnExactDropRingRow.holds Try.pinned (OpenSpec.ofChange fnExactDropRingSpec)

/-- ITS FALSE NEIGHBOUR: 'it returns false'. Refute it at one input. -/
def fnExactDropRingWrong : ChangeSpec := { name := "fnExactDropRing", fn := fun _ => fun
  | [d1, d2] => { results := [.lit (.bool false)], args := [d1, d2] }
  | _ => none }
def FnExactDropRingWrongFalsely : Prop := fnExactDropRingRow.holds Try.pinned (OpenSpec.ofChange fnExactDropRingWrong)

/-- 'laws.FnExactWriteRing': WHATEVER THE INPUT: true; the input reads as it did. -/
def fnExactWriteRingSpec : ChangeSpec := { name := "fnExactWriteRing", fn := fun _ => fun
  | [d1, d2] => { results := [.lit (.bool true)], args := [d1, d2] }
  | _ => none }
def fnExactWriteRingRow : OpenClaim := { program := "yteebkiochnhnhaa", sum := "0e431e7ed86b3c51055c237857ce12771e717453adbf9d52901c39931eb94d26", func := "loop.example/g01633/laws.FnExactWriteRing", spec := "fnExactWriteRing", unfollowed := true, recurses := true, apart := false }
def FnExactWriteRingSaid : Prop := fnExactWriteRingRow.holds Try.pinned (OpenSpec.ofChange fnExactWriteRingSpec)

/-- ITS FALSE NEIGHBOUR: 'it returns false'. Refute it at one input. -/
def fnExactWriteRingWrong : ChangeSpec := { name := "fnExactWriteRing", fn := fun _ => fun
  | [d1, d2] => { results := [.lit (.bool false)], args := [d1, d2] }
  | _ => none }
def FnExactWriteRingWrongFalsely : Prop := fnExactWriteRingRow.holds Try.pinned (OpenSpec.ofChange fnExactWriteRingWrong)

/-- 'laws.FnRings': WHATEVER THE INPUT: true; the input reads as it did. -/
def fnRingsSpec : ChangeSpec := { name := "fnRings", fn := fun _ => fun
  | [d] => { results := [.lit (.bool true)], args := [d] }
  | _ => none }
def fnRingsRow : OpenClaim := { program := "yteebkiochnhnhaa", sum := "0e431e7ed86b3c51055c237857ce12771e717453adbf9d52901c39931eb94d26", func := "loop.example/g01633/laws.FnRings", spec := "fnRings", unfollowed := true, recurses := true, apart := false }
def FnRingsSaid : Prop := fnRingsRow.holds Try.pinned (OpenSpec.ofChange fnRingsSpec)

/-- ITS FALSE NEIGHBOUR: 'it returns false'. Refute it at one input. -/
def fnRingsWrong : ChangeSpec := { name := "fnRings", fn := fun _ => fun
  | [d] => { results := [.lit (.bool false)], args := [d] }
  | _ => none }
def FnRingsWrongFalsely : Prop := fnRingsRow.holds Try.pinned (OpenSpec.ofChange fnRingsWrong)

/- THE SECOND FORM. 'bulk': how many values and letters a reading holds, each counted each time it is reached (what is shared counts as often as it is met; a slice's spare places count too). A statement '..UptoSaid' is the law's where the arguments, and the package variables that the reading takes, are together of bulk at most 1048576: NARROWER than '..Said'. Prove '..Said' where nothing that the law and all that it calls make is longer than what came in: it says more and counts as full. Else prove '..UptoSaid'. A law counts once. -/
mutual
def uptoBulk {H : Type} : DataW H → Nat
  | .lit (.string bytes) => bytes.length + 1
  | .lit _ => 1
  | .nil => 1
  | .ptr d => uptoBulk d + 1
  | .slice elems spare => uptoBulkAll elems + uptoBulkAll spare + 1
  | .agg parts => uptoBulkAll parts + 1
  | .iface _ d => uptoBulk d + 1
  | .map entries => uptoBulkEntries entries + 1
  | .held _ => 1
def uptoBulkAll {H : Type} : List (DataW H) → Nat
  | [] => 0
  | d :: r => uptoBulk d + uptoBulkAll r
def uptoBulkEntries {H : Type} : List (Lit × DataW H) → Nat
  | [] => 0
  | x :: r => uptoBulkEntry x + uptoBulkEntries r
def uptoBulkEntry {H : Type} : Lit × DataW H → Nat
  | (.string bytes, d) => bytes.length + uptoBulk d + 1
  | (_, d) => uptoBulk d + 1
 end
def uptoSmall : (H : Type) → List (DataW H) → Bool := fun _ ds => decide (uptoBulkAll ds ≤ 1048576)
def OpenSpec.upto (s : _root_.Go.ChangeSpec) : _root_.Go.OpenSpec := { _root_.Go.OpenSpec.ofChange s with cond := some uptoSmall }

/-- 'laws.FnExactNewRing', WHERE WHAT IT READS IS OF BULK AT MOST 1048576: true; the input reads as it did. -/
def fnExactNewRingUptoRow : OpenClaim := { program := "yteebkiochnhnhaa", sum := "0e431e7ed86b3c51055c237857ce12771e717453adbf9d52901c39931eb94d26", func := "loop.example/g01633/laws.FnExactNewRing", spec := "fnExactNewRing", apart := false, narrowed := true }
def FnExactNewRingUptoSaid : Prop := fnExactNewRingUptoRow.holds Try.pinned (OpenSpec.upto fnExactNewRingSpec)

/-- 'laws.FnExactEqualRings', WHERE WHAT IT READS IS OF BULK AT MOST 1048576: true; the input reads as it did. -/
def fnExactEqualRingsUptoRow : OpenClaim := { program := "yteebkiochnhnhaa", sum := "0e431e7ed86b3c51055c237857ce12771e717453adbf9d52901c39931eb94d26", func := "loop.example/g01633/laws.FnExactEqualRings", spec := "fnExactEqualRings", apart := false, narrowed := true }
def FnExactEqualRingsUptoSaid : Prop := fnExactEqualRingsUptoRow.holds Try.pinned (OpenSpec.upto fnExactEqualRingsSpec)

/-- 'laws.FnExactIsRing', WHERE WHAT IT READS IS OF BULK AT MOST 1048576: true; the input reads as it did. -/
def fnExactIsRingUptoRow : OpenClaim := { program := "yteebkiochnhnhaa", sum := "0e431e7ed86b3c51055c237857ce12771e717453adbf9d52901c39931eb94d26", func := "loop.example/g01633/laws.FnExactIsRing", spec := "fnExactIsRing", unfollowed := true, recurses := true, apart := false, narrowed := true }
def FnExactIsRingUptoSaid : Prop := fnExactIsRingUptoRow.holds Try.pinned (OpenSpec.upto fnExactIsRingSpec)

/-- 'laws.FnExactRoomOf', WHERE WHAT IT READS IS OF BULK AT MOST 1048576: true; the input reads as it did. -/
def fnExactRoomOfUptoRow : OpenClaim := { program := "yteebkiochnhnhaa", sum := "0e431e7ed86b3c51055c237857ce12771e717453adbf9d52901c39931eb94d26", func := "loop.example/g01633/laws.FnExactRoomOf", spec := "fnExactRoomOf", unfollowed := true, recurses := true, apart := false, narrowed := true }
def FnExactRoomOfUptoSaid : Prop := fnExactRoomOfUptoRow.holds Try.pinned (OpenSpec.upto fnExactRoomOfSpec)

/-- 'laws.FnExactPeekRing', WHERE WHAT IT READS IS OF BULK AT MOST 1048576: true; the input reads as it did. -/
def fnExactPeekRingUptoRow : OpenClaim := { program := "yteebkiochnhnhaa", sum := "0e431e7ed86b3c51055c237857ce12771e717453adbf9d52901c39931eb94d26", func := "loop.example/g01633/laws.FnExactPeekRing", spec := "fnExactPeekRing", unfollowed := true, recurses := true, apart := false, narrowed := true }
def FnExactPeekRingUptoSaid : Prop := fnExactPeekRingUptoRow.holds Try.pinned (OpenSpec.upto fnExactPeekRingSpec)

/-- 'laws.FnExactDropRing', WHERE WHAT IT READS IS OF BULK AT MOST 1048576: true; the input reads as it did. -/
def fnExactDropRingUptoRow : OpenClaim := { program := "yteebkiochnhnhaa", sum := "0e431e7ed86b3c51055c237857ce12771e717453adbf9d52901c39931eb94d26", func := "loop.example/g01633/laws.FnExactDropRing", spec := "fnExactDropRing", unfollowed := true, recurses := true, apart := false, narrowed := true }
def FnExactDropRingUptoSaid : Prop := fnExactDropRingUptoRow.holds Try.pinned (OpenSpec.upto fnExactDropRingSpec)

/-- 'laws.FnExactWriteRing', WHERE WHAT IT READS IS OF BULK AT MOST 1048576: true; the input reads as it did. -/
def fnExactWriteRingUptoRow : OpenClaim := { program := "yteebkiochnhnhaa", sum := "0e431e7ed86b3c51055c237857ce12771e717453adbf9d52901c39931eb94d26", func := "loop.example/g01633/laws.FnExactWriteRing", spec := "fnExactWriteRing", unfollowed := true, recurses := true, apart := false, narrowed := true }
def FnExactWriteRingUptoSaid : Prop := fnExactWriteRingUptoRow.holds Try.pinned (OpenSpec.upto fnExactWriteRingSpec)

/-- 'laws.FnRings', WHERE WHAT IT READS IS OF BULK AT MOST 1048576: true; the input reads as it did. -/
def fnRingsUptoRow : OpenClaim := { program := "yteebkiochnhnhaa", sum := "0e431e7ed86b3c51055c237857ce12771e717453adbf9d52901c39931eb94d26", func := "loop.example/g01633/laws.FnRings", spec := "fnRings", unfollowed := true, recurses := true, apart := false, narrowed := true }
def FnRingsUptoSaid : Prop := fnRingsUptoRow.holds Try.pinned (OpenSpec.upto fnRingsSpec)

end Rows
end Go.Proofs.Yteebkiochnhnhaa

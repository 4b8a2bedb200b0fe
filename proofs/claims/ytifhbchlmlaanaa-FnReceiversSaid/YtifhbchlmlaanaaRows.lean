/-
  No cell of these rows narrows 'for every input' (looked for: loops, veiled, ifaces, maps, wideKeys, modest, calm, conditions, laid).
  DERIVED. THE GIVEN ROWS OF THIS SEAT. 12 by the template 'for every input the law returns true; each argument reads behind the call as it read before'; 0 by the template 'total and deterministic' (their statements: YtifhbchlmlaanaaTotals.lean).
  GIVEN WITH THE SEED: the statements are not yours to turn. If you find one false, say at which input.
  Laid BY PROGRAM, IN A SANDBOX (cutbox-rows.mjs): the forced cells as the released guide's own fill.sh prints them over the translation 75ae868f4280a455… (all of the seat's roots in one cut). By AI agents, Wed Nov 11 2026. No macro, syntax, notation, axiom, sorry.
-/
import Derived.Test.YtifhbchlmlaanaaChecked
import GoSem.Claim
import GoSem.ClaimJoined
import GoSem.ClaimMapViews
import Derived.JoinedTies
import Derived.KernelRfl
namespace Go.Proofs.Ytifhbchlmlaanaa
/- THE CELL 'sum', in the pinned program and in every row, IS THE sha256 OF THE DUMP (.gsa) THAT YtifhbchlmlaanaaProg.lean LOADS. Nothing in Lean hashes anything: it is a label: what it is worth is what the hold of that sum in a sandbox is worth. -/
noncomputable def Try.pinned : Pinned := { name := "ytifhbchlmlaanaa", sum := "75ae868f4280a455f0386361e6cd7f5300aaa9ce43f50058b0bb7a45f1a3a2ba", checked := Try.checked }
namespace Rows
def none {H : Type} : Left H := { results := [], args := [] }

/-- 'laws.FnExactNewReceiver': WHATEVER THE INPUT: true; the input reads as it did. -/
def fnExactNewReceiverSpec : ChangeSpec := { name := "fnExactNewReceiver", fn := fun _ => fun
  | [] => { results := [.lit (.bool true)], args := [] }
  | _ => none }
def fnExactNewReceiverRow : OpenClaim := { program := "ytifhbchlmlaanaa", sum := "75ae868f4280a455f0386361e6cd7f5300aaa9ce43f50058b0bb7a45f1a3a2ba", func := "loop.example/g01633/laws.FnExactNewReceiver", spec := "fnExactNewReceiver", apart := false }
def FnExactNewReceiverSaid : Prop := fnExactNewReceiverRow.holds Try.pinned (OpenSpec.ofChange fnExactNewReceiverSpec)

/-- ITS FALSE NEIGHBOUR: 'it returns false'. Refute it at one input. -/
def fnExactNewReceiverWrong : ChangeSpec := { name := "fnExactNewReceiver", fn := fun _ => fun
  | [] => { results := [.lit (.bool false)], args := [] }
  | _ => none }
def FnExactNewReceiverWrongFalsely : Prop := fnExactNewReceiverRow.holds Try.pinned (OpenSpec.ofChange fnExactNewReceiverWrong)

/-- 'laws.FnExactEqualReceivers': WHATEVER THE INPUT: true; the input reads as it did. -/
def fnExactEqualReceiversSpec : ChangeSpec := { name := "fnExactEqualReceivers", fn := fun _ => fun
  | [d1, d2] => { results := [.lit (.bool true)], args := [d1, d2] }
  | _ => none }
def fnExactEqualReceiversRow : OpenClaim := { program := "ytifhbchlmlaanaa", sum := "75ae868f4280a455f0386361e6cd7f5300aaa9ce43f50058b0bb7a45f1a3a2ba", func := "loop.example/g01633/laws.FnExactEqualReceivers", spec := "fnExactEqualReceivers", apart := false }
def FnExactEqualReceiversSaid : Prop := fnExactEqualReceiversRow.holds Try.pinned (OpenSpec.ofChange fnExactEqualReceiversSpec)

/-- ITS FALSE NEIGHBOUR: 'it returns false'. Refute it at one input. -/
def fnExactEqualReceiversWrong : ChangeSpec := { name := "fnExactEqualReceivers", fn := fun _ => fun
  | [d1, d2] => { results := [.lit (.bool false)], args := [d1, d2] }
  | _ => none }
def FnExactEqualReceiversWrongFalsely : Prop := fnExactEqualReceiversRow.holds Try.pinned (OpenSpec.ofChange fnExactEqualReceiversWrong)

/-- 'laws.FnExactIsReceiver': WHATEVER THE INPUT: true; the input reads as it did. -/
def fnExactIsReceiverSpec : ChangeSpec := { name := "fnExactIsReceiver", fn := fun _ => fun
  | [d] => { results := [.lit (.bool true)], args := [d] }
  | _ => none }
def fnExactIsReceiverRow : OpenClaim := { program := "ytifhbchlmlaanaa", sum := "75ae868f4280a455f0386361e6cd7f5300aaa9ce43f50058b0bb7a45f1a3a2ba", func := "loop.example/g01633/laws.FnExactIsReceiver", spec := "fnExactIsReceiver", apart := false }
def FnExactIsReceiverSaid : Prop := fnExactIsReceiverRow.holds Try.pinned (OpenSpec.ofChange fnExactIsReceiverSpec)

/-- ITS FALSE NEIGHBOUR: 'it returns false'. Refute it at one input. -/
def fnExactIsReceiverWrong : ChangeSpec := { name := "fnExactIsReceiver", fn := fun _ => fun
  | [d] => { results := [.lit (.bool false)], args := [d] }
  | _ => none }
def FnExactIsReceiverWrongFalsely : Prop := fnExactIsReceiverRow.holds Try.pinned (OpenSpec.ofChange fnExactIsReceiverWrong)

/-- 'laws.FnExactIsReceived': WHATEVER THE INPUT: true; the input reads as it did. -/
def fnExactIsReceivedSpec : ChangeSpec := { name := "fnExactIsReceived", fn := fun _ => fun
  | [d] => { results := [.lit (.bool true)], args := [d] }
  | _ => none }
def fnExactIsReceivedRow : OpenClaim := { program := "ytifhbchlmlaanaa", sum := "75ae868f4280a455f0386361e6cd7f5300aaa9ce43f50058b0bb7a45f1a3a2ba", func := "loop.example/g01633/laws.FnExactIsReceived", spec := "fnExactIsReceived", apart := false }
def FnExactIsReceivedSaid : Prop := fnExactIsReceivedRow.holds Try.pinned (OpenSpec.ofChange fnExactIsReceivedSpec)

/-- ITS FALSE NEIGHBOUR: 'it returns false'. Refute it at one input. -/
def fnExactIsReceivedWrong : ChangeSpec := { name := "fnExactIsReceived", fn := fun _ => fun
  | [d] => { results := [.lit (.bool false)], args := [d] }
  | _ => none }
def FnExactIsReceivedWrongFalsely : Prop := fnExactIsReceivedRow.holds Try.pinned (OpenSpec.ofChange fnExactIsReceivedWrong)

/-- 'laws.FnExactNewBytes': WHATEVER THE INPUT: true; the input reads as it did. -/
def fnExactNewBytesSpec : ChangeSpec := { name := "fnExactNewBytes", fn := fun _ => fun
  | [d1, d2] => { results := [.lit (.bool true)], args := [d1, d2] }
  | _ => none }
def fnExactNewBytesRow : OpenClaim := { program := "ytifhbchlmlaanaa", sum := "75ae868f4280a455f0386361e6cd7f5300aaa9ce43f50058b0bb7a45f1a3a2ba", func := "loop.example/g01633/laws.FnExactNewBytes", spec := "fnExactNewBytes", apart := false }
def FnExactNewBytesSaid : Prop := fnExactNewBytesRow.holds Try.pinned (OpenSpec.ofChange fnExactNewBytesSpec)

/-- ITS FALSE NEIGHBOUR: 'it returns false'. Refute it at one input. -/
def fnExactNewBytesWrong : ChangeSpec := { name := "fnExactNewBytes", fn := fun _ => fun
  | [d1, d2] => { results := [.lit (.bool false)], args := [d1, d2] }
  | _ => none }
def FnExactNewBytesWrongFalsely : Prop := fnExactNewBytesRow.holds Try.pinned (OpenSpec.ofChange fnExactNewBytesWrong)

/-- 'laws.FnExactReceiveReset': WHATEVER THE INPUT: true; the input reads as it did. -/
def fnExactReceiveResetSpec : ChangeSpec := { name := "fnExactReceiveReset", fn := fun _ => fun
  | [d1, d2, d3] => { results := [.lit (.bool true)], args := [d1, d2, d3] }
  | _ => none }
def fnExactReceiveResetRow : OpenClaim := { program := "ytifhbchlmlaanaa", sum := "75ae868f4280a455f0386361e6cd7f5300aaa9ce43f50058b0bb7a45f1a3a2ba", func := "loop.example/g01633/laws.FnExactReceiveReset", spec := "fnExactReceiveReset", apart := false }
def FnExactReceiveResetSaid : Prop := fnExactReceiveResetRow.holds Try.pinned (OpenSpec.ofChange fnExactReceiveResetSpec)

/-- ITS FALSE NEIGHBOUR: 'it returns false'. Refute it at one input. -/
def fnExactReceiveResetWrong : ChangeSpec := { name := "fnExactReceiveReset", fn := fun _ => fun
  | [d1, d2, d3] => { results := [.lit (.bool false)], args := [d1, d2, d3] }
  | _ => none }
def FnExactReceiveResetWrongFalsely : Prop := fnExactReceiveResetRow.holds Try.pinned (OpenSpec.ofChange fnExactReceiveResetWrong)

/-- 'laws.FnExactReadReceiver': WHATEVER THE INPUT: true; the input reads as it did. -/
def fnExactReadReceiverSpec : ChangeSpec := { name := "fnExactReadReceiver", fn := fun _ => fun
  | [d1, d2] => { results := [.lit (.bool true)], args := [d1, d2] }
  | _ => none }
def fnExactReadReceiverRow : OpenClaim := { program := "ytifhbchlmlaanaa", sum := "75ae868f4280a455f0386361e6cd7f5300aaa9ce43f50058b0bb7a45f1a3a2ba", func := "loop.example/g01633/laws.FnExactReadReceiver", spec := "fnExactReadReceiver", apart := false }
def FnExactReadReceiverSaid : Prop := fnExactReadReceiverRow.holds Try.pinned (OpenSpec.ofChange fnExactReadReceiverSpec)

/-- ITS FALSE NEIGHBOUR: 'it returns false'. Refute it at one input. -/
def fnExactReadReceiverWrong : ChangeSpec := { name := "fnExactReadReceiver", fn := fun _ => fun
  | [d1, d2] => { results := [.lit (.bool false)], args := [d1, d2] }
  | _ => none }
def FnExactReadReceiverWrongFalsely : Prop := fnExactReadReceiverRow.holds Try.pinned (OpenSpec.ofChange fnExactReadReceiverWrong)

/-- 'laws.FnExactReceiveData': WHATEVER THE INPUT: true; the input reads as it did. -/
def fnExactReceiveDataSpec : ChangeSpec := { name := "fnExactReceiveData", fn := fun _ => fun
  | [d1, d2, d3, d4] => { results := [.lit (.bool true)], args := [d1, d2, d3, d4] }
  | _ => none }
def fnExactReceiveDataRow : OpenClaim := { program := "ytifhbchlmlaanaa", sum := "75ae868f4280a455f0386361e6cd7f5300aaa9ce43f50058b0bb7a45f1a3a2ba", func := "loop.example/g01633/laws.FnExactReceiveData", spec := "fnExactReceiveData", unfollowed := true, recurses := true, apart := false }
def FnExactReceiveDataSaid : Prop := fnExactReceiveDataRow.holds Try.pinned (OpenSpec.ofChange fnExactReceiveDataSpec)

/-- ITS FALSE NEIGHBOUR: 'it returns false'. Refute it at one input. -/
def fnExactReceiveDataWrong : ChangeSpec := { name := "fnExactReceiveData", fn := fun _ => fun
  | [d1, d2, d3, d4] => { results := [.lit (.bool false)], args := [d1, d2, d3, d4] }
  | _ => none }
def FnExactReceiveDataWrongFalsely : Prop := fnExactReceiveDataRow.holds Try.pinned (OpenSpec.ofChange fnExactReceiveDataWrong)

/-- 'laws.FnResets': WHATEVER THE INPUT: true; the input reads as it did. -/
def fnResetsSpec : ChangeSpec := { name := "fnResets", fn := fun _ => fun
  | [d] => { results := [.lit (.bool true)], args := [d] }
  | _ => none }
def fnResetsRow : OpenClaim := { program := "ytifhbchlmlaanaa", sum := "75ae868f4280a455f0386361e6cd7f5300aaa9ce43f50058b0bb7a45f1a3a2ba", func := "loop.example/g01633/laws.FnResets", spec := "fnResets", apart := false }
def FnResetsSaid : Prop := fnResetsRow.holds Try.pinned (OpenSpec.ofChange fnResetsSpec)

/-- ITS FALSE NEIGHBOUR: 'it returns false'. Refute it at one input. -/
def fnResetsWrong : ChangeSpec := { name := "fnResets", fn := fun _ => fun
  | [d] => { results := [.lit (.bool false)], args := [d] }
  | _ => none }
def FnResetsWrongFalsely : Prop := fnResetsRow.holds Try.pinned (OpenSpec.ofChange fnResetsWrong)

/-- 'laws.FnReads': WHATEVER THE INPUT: true; the input reads as it did. -/
def fnReadsSpec : ChangeSpec := { name := "fnReads", fn := fun _ => fun
  | [d] => { results := [.lit (.bool true)], args := [d] }
  | _ => none }
def fnReadsRow : OpenClaim := { program := "ytifhbchlmlaanaa", sum := "75ae868f4280a455f0386361e6cd7f5300aaa9ce43f50058b0bb7a45f1a3a2ba", func := "loop.example/g01633/laws.FnReads", spec := "fnReads", apart := false }
def FnReadsSaid : Prop := fnReadsRow.holds Try.pinned (OpenSpec.ofChange fnReadsSpec)

/-- ITS FALSE NEIGHBOUR: 'it returns false'. Refute it at one input. -/
def fnReadsWrong : ChangeSpec := { name := "fnReads", fn := fun _ => fun
  | [d] => { results := [.lit (.bool false)], args := [d] }
  | _ => none }
def FnReadsWrongFalsely : Prop := fnReadsRow.holds Try.pinned (OpenSpec.ofChange fnReadsWrong)

/-- 'laws.FnReceivers': WHATEVER THE INPUT: true; the input reads as it did. -/
def fnReceiversSpec : ChangeSpec := { name := "fnReceivers", fn := fun _ => fun
  | [d] => { results := [.lit (.bool true)], args := [d] }
  | _ => none }
def fnReceiversRow : OpenClaim := { program := "ytifhbchlmlaanaa", sum := "75ae868f4280a455f0386361e6cd7f5300aaa9ce43f50058b0bb7a45f1a3a2ba", func := "loop.example/g01633/laws.FnReceivers", spec := "fnReceivers", unfollowed := true, recurses := true, apart := false }
def FnReceiversSaid : Prop := fnReceiversRow.holds Try.pinned (OpenSpec.ofChange fnReceiversSpec)

/-- ITS FALSE NEIGHBOUR: 'it returns false'. Refute it at one input. -/
def fnReceiversWrong : ChangeSpec := { name := "fnReceivers", fn := fun _ => fun
  | [d] => { results := [.lit (.bool false)], args := [d] }
  | _ => none }
def FnReceiversWrongFalsely : Prop := fnReceiversRow.holds Try.pinned (OpenSpec.ofChange fnReceiversWrong)

/-- 'laws.FnBuffers': WHATEVER THE INPUT: true; the input reads as it did. -/
def fnBuffersSpec : ChangeSpec := { name := "fnBuffers", fn := fun _ => fun
  | [d] => { results := [.lit (.bool true)], args := [d] }
  | _ => none }
def fnBuffersRow : OpenClaim := { program := "ytifhbchlmlaanaa", sum := "75ae868f4280a455f0386361e6cd7f5300aaa9ce43f50058b0bb7a45f1a3a2ba", func := "loop.example/g01633/laws.FnBuffers", spec := "fnBuffers", unfollowed := true, recurses := true, apart := false }
def FnBuffersSaid : Prop := fnBuffersRow.holds Try.pinned (OpenSpec.ofChange fnBuffersSpec)

/-- ITS FALSE NEIGHBOUR: 'it returns false'. Refute it at one input. -/
def fnBuffersWrong : ChangeSpec := { name := "fnBuffers", fn := fun _ => fun
  | [d] => { results := [.lit (.bool false)], args := [d] }
  | _ => none }
def FnBuffersWrongFalsely : Prop := fnBuffersRow.holds Try.pinned (OpenSpec.ofChange fnBuffersWrong)

/- THE SECOND FORM. 'bulk': how many values and letters a reading holds, each counted each time it is reached (what is shared counts as often as it is met; a slice's spare places count too). A statement '..UptoSaid' is the law's where the arguments, and the package variables that the reading takes, are together of bulk at most 1048576: NARROWER than '..Said'. Prove '..Said' where nothing that the law and all that it calls make is longer than what came in: it says more and counts as full. Else prove '..UptoSaid'. A law counts once. -/
mutual
def uptoBulk {H : Type} : DataW H → Nat
  | .lit (.string bytes) => bytes.length + 1
  | .lit _ => 1
  | .nil => 1
  | .ptr d => uptoBulk d + 1
  | .slice elems spare => uptoBulkAll elems + uptoBulkAll spare + 1
  | .agg parts => uptoBulkAll parts + 1
  | .iface _ d => uptoBulk d + 1
  | .map entries => uptoBulkEntries entries + 1
  | .held _ => 1
def uptoBulkAll {H : Type} : List (DataW H) → Nat
  | [] => 0
  | d :: r => uptoBulk d + uptoBulkAll r
def uptoBulkEntries {H : Type} : List (Lit × DataW H) → Nat
  | [] => 0
  | x :: r => uptoBulkEntry x + uptoBulkEntries r
def uptoBulkEntry {H : Type} : Lit × DataW H → Nat
  | (.string bytes, d) => bytes.length + uptoBulk d + 1
  | (_, d) => uptoBulk d + 1
 end
def uptoSmall : (H : Type) → List (DataW H) → Bool := fun _ ds => decide (uptoBulkAll ds ≤ 1048576)
def OpenSpec.upto (s : _root_.Go.ChangeSpec) : _root_.Go.OpenSpec := { _root_.Go.OpenSpec.ofChange s with cond := some uptoSmall }

/-- 'laws.FnExactNewReceiver', WHERE WHAT IT READS IS OF BULK AT MOST 1048576: true; the input reads as it did. -/
def fnExactNewReceiverUptoRow : OpenClaim := { program := "ytifhbchlmlaanaa", sum := "75ae868f4280a455f0386361e6cd7f5300aaa9ce43f50058b0bb7a45f1a3a2ba", func := "loop.example/g01633/laws.FnExactNewReceiver", spec := "fnExactNewReceiver", apart := false, narrowed := true }
def FnExactNewReceiverUptoSaid : Prop := fnExactNewReceiverUptoRow.holds Try.pinned (OpenSpec.upto fnExactNewReceiverSpec)

/-- 'laws.FnExactEqualReceivers', WHERE WHAT IT READS IS OF BULK AT MOST 1048576: true; the input reads as it did. -/
def fnExactEqualReceiversUptoRow : OpenClaim := { program := "ytifhbchlmlaanaa", sum := "75ae868f4280a455f0386361e6cd7f5300aaa9ce43f50058b0bb7a45f1a3a2ba", func := "loop.example/g01633/laws.FnExactEqualReceivers", spec := "fnExactEqualReceivers", apart := false, narrowed := true }
def FnExactEqualReceiversUptoSaid : Prop := fnExactEqualReceiversUptoRow.holds Try.pinned (OpenSpec.upto fnExactEqualReceiversSpec)

/-- 'laws.FnExactIsReceiver', WHERE WHAT IT READS IS OF BULK AT MOST 1048576: true; the input reads as it did. -/
def fnExactIsReceiverUptoRow : OpenClaim := { program := "ytifhbchlmlaanaa", sum := "75ae868f4280a455f0386361e6cd7f5300aaa9ce43f50058b0bb7a45f1a3a2ba", func := "loop.example/g01633/laws.FnExactIsReceiver", spec := "fnExactIsReceiver", apart := false, narrowed := true }
def FnExactIsReceiverUptoSaid : Prop := fnExactIsReceiverUptoRow.holds Try.pinned (OpenSpec.upto fnExactIsReceiverSpec)

/-- 'laws.FnExactIsReceived', WHERE WHAT IT READS IS OF BULK AT MOST 1048576: true; the input reads as it did. -/
def fnExactIsReceivedUptoRow : OpenClaim := { program := "ytifhbchlmlaanaa", sum := "75ae868f4280a455f0386361e6cd7f5300aaa9ce43f50058b0bb7a45f1a3a2ba", func := "loop.example/g01633/laws.FnExactIsReceived", spec := "fnExactIsReceived", apart := false, narrowed := true }
def FnExactIsReceivedUptoSaid : Prop := fnExactIsReceivedUptoRow.holds Try.pinned (OpenSpec.upto fnExactIsReceivedSpec)

/-- 'laws.FnExactNewBytes', WHERE WHAT IT READS IS OF BULK AT MOST 1048576: true; the input reads as it did. -/
def fnExactNewBytesUptoRow : OpenClaim := { program := "ytifhbchlmlaanaa", sum := "75ae868f4280a455f0386361e6cd7f5300aaa9ce43f50058b0bb7a45f1a3a2ba", func := "loop.example/g01633/laws.FnExactNewBytes", spec := "fnExactNewBytes", apart := false, narrowed := true }
def FnExactNewBytesUptoSaid : Prop := fnExactNewBytesUptoRow.holds Try.pinned (OpenSpec.upto fnExactNewBytesSpec)

/-- 'laws.FnExactReceiveReset', WHERE WHAT IT READS IS OF BULK AT MOST 1048576: true; the input reads as it did. -/
def fnExactReceiveResetUptoRow : OpenClaim := { program := "ytifhbchlmlaanaa", sum := "75ae868f4280a455f0386361e6cd7f5300aaa9ce43f50058b0bb7a45f1a3a2ba", func := "loop.example/g01633/laws.FnExactReceiveReset", spec := "fnExactReceiveReset", apart := false, narrowed := true }
def FnExactReceiveResetUptoSaid : Prop := fnExactReceiveResetUptoRow.holds Try.pinned (OpenSpec.upto fnExactReceiveResetSpec)

/-- 'laws.FnExactReadReceiver', WHERE WHAT IT READS IS OF BULK AT MOST 1048576: true; the input reads as it did. -/
def fnExactReadReceiverUptoRow : OpenClaim := { program := "ytifhbchlmlaanaa", sum := "75ae868f4280a455f0386361e6cd7f5300aaa9ce43f50058b0bb7a45f1a3a2ba", func := "loop.example/g01633/laws.FnExactReadReceiver", spec := "fnExactReadReceiver", apart := false, narrowed := true }
def FnExactReadReceiverUptoSaid : Prop := fnExactReadReceiverUptoRow.holds Try.pinned (OpenSpec.upto fnExactReadReceiverSpec)

/-- 'laws.FnExactReceiveData', WHERE WHAT IT READS IS OF BULK AT MOST 1048576: true; the input reads as it did. -/
def fnExactReceiveDataUptoRow : OpenClaim := { program := "ytifhbchlmlaanaa", sum := "75ae868f4280a455f0386361e6cd7f5300aaa9ce43f50058b0bb7a45f1a3a2ba", func := "loop.example/g01633/laws.FnExactReceiveData", spec := "fnExactReceiveData", unfollowed := true, recurses := true, apart := false, narrowed := true }
def FnExactReceiveDataUptoSaid : Prop := fnExactReceiveDataUptoRow.holds Try.pinned (OpenSpec.upto fnExactReceiveDataSpec)

/-- 'laws.FnResets', WHERE WHAT IT READS IS OF BULK AT MOST 1048576: true; the input reads as it did. -/
def fnResetsUptoRow : OpenClaim := { program := "ytifhbchlmlaanaa", sum := "75ae868f4280a455f0386361e6cd7f5300aaa9ce43f50058b0bb7a45f1a3a2ba", func := "loop.example/g01633/laws.FnResets", spec := "fnResets", apart := false, narrowed := true }
def FnResetsUptoSaid : Prop := fnResetsUptoRow.holds Try.pinned (OpenSpec.upto fnResetsSpec)

/-- 'laws.FnReads', WHERE WHAT IT READS IS OF BULK AT MOST 1048576: true; the input reads as it did. -/
def fnReadsUptoRow : OpenClaim := { program := "ytifhbchlmlaanaa", sum := "75ae868f4280a455f0386361e6cd7f5300aaa9ce43f50058b0bb7a45f1a3a2ba", func := "loop.example/g01633/laws.FnReads", spec := "fnReads", apart := false, narrowed := true }
def FnReadsUptoSaid : Prop := fnReadsUptoRow.holds Try.pinned (OpenSpec.upto fnReadsSpec)

/-- 'laws.FnReceivers', WHERE WHAT IT READS IS OF BULK AT MOST 1048576: true; the input reads as it did. -/
def fnReceiversUptoRow : OpenClaim := { program := "ytifhbchlmlaanaa", sum := "75ae868f4280a455f0386361e6cd7f5300aaa9ce43f50058b0bb7a45f1a3a2ba", func := "loop.example/g01633/laws.FnReceivers", spec := "fnReceivers", unfollowed := true, recurses := true, apart := false, narrowed := true }
def FnReceiversUptoSaid : Prop := fnReceiversUptoRow.holds Try.pinned (OpenSpec.upto fnReceiversSpec)

/-- 'laws.FnBuffers', WHERE WHAT IT READS IS OF BULK AT MOST 1048576: true; the input reads as it did. -/
def fnBuffersUptoRow : OpenClaim := { program := "ytifhbchlmlaanaa", sum := "75ae868f4280a455f0386361e6cd7f5300aaa9ce43f50058b0bb7a45f1a3a2ba", func := "loop.example/g01633/laws.FnBuffers", spec := "fnBuffers", unfollowed := true, recurses := true, apart := false, narrowed := true }
def FnBuffersUptoSaid : Prop := fnBuffersUptoRow.holds Try.pinned (OpenSpec.upto fnBuffersSpec)

end Rows
end Go.Proofs.Ytifhbchlmlaanaa

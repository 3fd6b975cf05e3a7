/-
  No cell of these rows narrows 'for every input' (looked for: loops, veiled, ifaces, maps, wideKeys, modest, calm, conditions, laid).
  DERIVED. THE GIVEN ROWS OF THIS SEAT. 11 by the template 'for every input the law returns true; each argument reads behind the call as it read before'; 0 by the template 'total and deterministic' (their statements: YtaicjimppcledaaTotals.lean).
  GIVEN WITH THE SEED: the statements are not yours to turn. If you find one false, say at which input.
  Laid BY PROGRAM, IN A SANDBOX (cutbox-rows.mjs): the forced cells as the released guide's own fill.sh prints them over the translation e6ce8775e1281b8b… (all of the seat's roots in one cut). By AI agents, Wed Nov 11 2026. No macro, syntax, notation, axiom, sorry.
-/
import Derived.Test.YtaicjimppcledaaChecked
import GoSem.Claim
import GoSem.ClaimJoined
import GoSem.ClaimMapViews
import Derived.JoinedTies
import Derived.KernelRfl
namespace Go.Proofs.Ytaicjimppcledaa
/- THE CELL 'sum', in the pinned program and in every row, IS THE sha256 OF THE DUMP (.gsa) THAT YtaicjimppcledaaProg.lean LOADS. Nothing in Lean hashes anything: it is a label: what it is worth is what the hold of that sum in a sandbox is worth. -/
noncomputable def Try.pinned : Pinned := { name := "ytaicjimppcledaa", sum := "e6ce8775e1281b8b28a0a144b595ba2fac4370018d6517cbd8454137e429f3a4", checked := Try.checked }
namespace Rows
def none {H : Type} : Left H := { results := [], args := [] }

/-- 'laws.FnExactPreHash': WHATEVER THE INPUT: true; the input reads as it did. -/
def fnExactPreHashSpec : ChangeSpec := { name := "fnExactPreHash", fn := fun _ => fun
  | [d1, d2] => { results := [.lit (.bool true)], args := [d1, d2] }
  | _ => none }
def fnExactPreHashRow : OpenClaim := { program := "ytaicjimppcledaa", sum := "e6ce8775e1281b8b28a0a144b595ba2fac4370018d6517cbd8454137e429f3a4", func := "loop.example/g00074/laws.FnExactPreHash", spec := "fnExactPreHash", inPlace := ["internal/abi.NoEscape", "internal/bytealg.MakeNoZero"], apart := false }
def FnExactPreHashSaid : Prop := fnExactPreHashRow.holds Try.pinned (OpenSpec.ofChange fnExactPreHashSpec)

/-- ITS FALSE NEIGHBOUR: 'it returns false'. Refute it at one input. -/
def fnExactPreHashWrong : ChangeSpec := { name := "fnExactPreHash", fn := fun _ => fun
  | [d1, d2] => { results := [.lit (.bool false)], args := [d1, d2] }
  | _ => none }
def FnExactPreHashWrongFalsely : Prop := fnExactPreHashRow.holds Try.pinned (OpenSpec.ofChange fnExactPreHashWrong)

/-- 'laws.FnExactBroken': WHATEVER THE INPUT: true; the input reads as it did. -/
def fnExactBrokenSpec : ChangeSpec := { name := "fnExactBroken", fn := fun _ => fun
  | [d1, d2, d3] => { results := [.lit (.bool true)], args := [d1, d2, d3] }
  | _ => none }
def fnExactBrokenRow : OpenClaim := { program := "ytaicjimppcledaa", sum := "e6ce8775e1281b8b28a0a144b595ba2fac4370018d6517cbd8454137e429f3a4", func := "loop.example/g00074/laws.FnExactBroken", spec := "fnExactBroken", inPlace := ["internal/abi.NoEscape", "internal/bytealg.MakeNoZero"], apart := false }
def FnExactBrokenSaid : Prop := fnExactBrokenRow.holds Try.pinned (OpenSpec.ofChange fnExactBrokenSpec)

/-- ITS FALSE NEIGHBOUR: 'it returns false'. Refute it at one input. -/
def fnExactBrokenWrong : ChangeSpec := { name := "fnExactBroken", fn := fun _ => fun
  | [d1, d2, d3] => { results := [.lit (.bool false)], args := [d1, d2, d3] }
  | _ => none }
def FnExactBrokenWrongFalsely : Prop := fnExactBrokenRow.holds Try.pinned (OpenSpec.ofChange fnExactBrokenWrong)

/-- 'laws.FnExactEvidenceOk': WHATEVER THE INPUT: true; the input reads as it did. -/
def fnExactEvidenceOkSpec : ChangeSpec := { name := "fnExactEvidenceOk", fn := fun _ => fun
  | [d] => { results := [.lit (.bool true)], args := [d] }
  | _ => none }
def fnExactEvidenceOkRow : OpenClaim := { program := "ytaicjimppcledaa", sum := "e6ce8775e1281b8b28a0a144b595ba2fac4370018d6517cbd8454137e429f3a4", func := "loop.example/g00074/laws.FnExactEvidenceOk", spec := "fnExactEvidenceOk", inPlace := ["internal/abi.NoEscape", "internal/bytealg.MakeNoZero"], apart := false }
def FnExactEvidenceOkSaid : Prop := fnExactEvidenceOkRow.holds Try.pinned (OpenSpec.ofChange fnExactEvidenceOkSpec)

/-- ITS FALSE NEIGHBOUR: 'it returns false'. Refute it at one input. -/
def fnExactEvidenceOkWrong : ChangeSpec := { name := "fnExactEvidenceOk", fn := fun _ => fun
  | [d] => { results := [.lit (.bool false)], args := [d] }
  | _ => none }
def FnExactEvidenceOkWrongFalsely : Prop := fnExactEvidenceOkRow.holds Try.pinned (OpenSpec.ofChange fnExactEvidenceOkWrong)

/-- 'laws.FnExactCompareHeads': WHATEVER THE INPUT: true; the input reads as it did. -/
def fnExactCompareHeadsSpec : ChangeSpec := { name := "fnExactCompareHeads", fn := fun _ => fun
  | [d1, d2, d3] => { results := [.lit (.bool true)], args := [d1, d2, d3] }
  | _ => none }
def fnExactCompareHeadsRow : OpenClaim := { program := "ytaicjimppcledaa", sum := "e6ce8775e1281b8b28a0a144b595ba2fac4370018d6517cbd8454137e429f3a4", func := "loop.example/g00074/laws.FnExactCompareHeads", spec := "fnExactCompareHeads", inPlace := ["internal/abi.NoEscape", "internal/bytealg.MakeNoZero"], apart := false }
def FnExactCompareHeadsSaid : Prop := fnExactCompareHeadsRow.holds Try.pinned (OpenSpec.ofChange fnExactCompareHeadsSpec)

/-- ITS FALSE NEIGHBOUR: 'it returns false'. Refute it at one input. -/
def fnExactCompareHeadsWrong : ChangeSpec := { name := "fnExactCompareHeads", fn := fun _ => fun
  | [d1, d2, d3] => { results := [.lit (.bool false)], args := [d1, d2, d3] }
  | _ => none }
def FnExactCompareHeadsWrongFalsely : Prop := fnExactCompareHeadsRow.holds Try.pinned (OpenSpec.ofChange fnExactCompareHeadsWrong)

/-- 'laws.FnExactMeet': WHATEVER THE INPUT: true; the input reads as it did. -/
def fnExactMeetSpec : ChangeSpec := { name := "fnExactMeet", fn := fun _ => fun
  | [d1, d2] => { results := [.lit (.bool true)], args := [d1, d2] }
  | _ => none }
def fnExactMeetRow : OpenClaim := { program := "ytaicjimppcledaa", sum := "e6ce8775e1281b8b28a0a144b595ba2fac4370018d6517cbd8454137e429f3a4", func := "loop.example/g00074/laws.FnExactMeet", spec := "fnExactMeet", inPlace := ["internal/abi.NoEscape", "internal/bytealg.MakeNoZero"], apart := false }
def FnExactMeetSaid : Prop := fnExactMeetRow.holds Try.pinned (OpenSpec.ofChange fnExactMeetSpec)

/-- ITS FALSE NEIGHBOUR: 'it returns false'. Refute it at one input. -/
def fnExactMeetWrong : ChangeSpec := { name := "fnExactMeet", fn := fun _ => fun
  | [d1, d2] => { results := [.lit (.bool false)], args := [d1, d2] }
  | _ => none }
def FnExactMeetWrongFalsely : Prop := fnExactMeetRow.holds Try.pinned (OpenSpec.ofChange fnExactMeetWrong)

/-- 'laws.FnExactEvidenceOf': WHATEVER THE INPUT: true; the input reads as it did. -/
def fnExactEvidenceOfSpec : ChangeSpec := { name := "fnExactEvidenceOf", fn := fun _ => fun
  | [d1, d2, d3] => { results := [.lit (.bool true)], args := [d1, d2, d3] }
  | _ => none }
def fnExactEvidenceOfRow : OpenClaim := { program := "ytaicjimppcledaa", sum := "e6ce8775e1281b8b28a0a144b595ba2fac4370018d6517cbd8454137e429f3a4", func := "loop.example/g00074/laws.FnExactEvidenceOf", spec := "fnExactEvidenceOf", inPlace := ["internal/abi.NoEscape", "internal/bytealg.MakeNoZero"], apart := false }
def FnExactEvidenceOfSaid : Prop := fnExactEvidenceOfRow.holds Try.pinned (OpenSpec.ofChange fnExactEvidenceOfSpec)

/-- ITS FALSE NEIGHBOUR: 'it returns false'. Refute it at one input. -/
def fnExactEvidenceOfWrong : ChangeSpec := { name := "fnExactEvidenceOf", fn := fun _ => fun
  | [d1, d2, d3] => { results := [.lit (.bool false)], args := [d1, d2, d3] }
  | _ => none }
def FnExactEvidenceOfWrongFalsely : Prop := fnExactEvidenceOfRow.holds Try.pinned (OpenSpec.ofChange fnExactEvidenceOfWrong)

/-- 'laws.FnExactUnframe': WHATEVER THE INPUT: true; the input reads as it did. -/
def fnExactUnframeSpec : ChangeSpec := { name := "fnExactUnframe", fn := fun _ => fun
  | [d] => { results := [.lit (.bool true)], args := [d] }
  | _ => none }
def fnExactUnframeRow : OpenClaim := { program := "ytaicjimppcledaa", sum := "e6ce8775e1281b8b28a0a144b595ba2fac4370018d6517cbd8454137e429f3a4", func := "loop.example/g00074/laws.FnExactUnframe", spec := "fnExactUnframe", inPlace := ["internal/abi.NoEscape", "internal/bytealg.MakeNoZero"], apart := false }
def FnExactUnframeSaid : Prop := fnExactUnframeRow.holds Try.pinned (OpenSpec.ofChange fnExactUnframeSpec)

/-- ITS FALSE NEIGHBOUR: 'it returns false'. Refute it at one input. -/
def fnExactUnframeWrong : ChangeSpec := { name := "fnExactUnframe", fn := fun _ => fun
  | [d] => { results := [.lit (.bool false)], args := [d] }
  | _ => none }
def FnExactUnframeWrongFalsely : Prop := fnExactUnframeRow.holds Try.pinned (OpenSpec.ofChange fnExactUnframeWrong)

/-- 'laws.FnExactReadHead': WHATEVER THE INPUT: true; the input reads as it did. -/
def fnExactReadHeadSpec : ChangeSpec := { name := "fnExactReadHead", fn := fun _ => fun
  | [d1, d2] => { results := [.lit (.bool true)], args := [d1, d2] }
  | _ => none }
def fnExactReadHeadRow : OpenClaim := { program := "ytaicjimppcledaa", sum := "e6ce8775e1281b8b28a0a144b595ba2fac4370018d6517cbd8454137e429f3a4", func := "loop.example/g00074/laws.FnExactReadHead", spec := "fnExactReadHead", inPlace := ["internal/abi.NoEscape", "internal/bytealg.MakeNoZero"], apart := false }
def FnExactReadHeadSaid : Prop := fnExactReadHeadRow.holds Try.pinned (OpenSpec.ofChange fnExactReadHeadSpec)

/-- ITS FALSE NEIGHBOUR: 'it returns false'. Refute it at one input. -/
def fnExactReadHeadWrong : ChangeSpec := { name := "fnExactReadHead", fn := fun _ => fun
  | [d1, d2] => { results := [.lit (.bool false)], args := [d1, d2] }
  | _ => none }
def FnExactReadHeadWrongFalsely : Prop := fnExactReadHeadRow.holds Try.pinned (OpenSpec.ofChange fnExactReadHeadWrong)

/-- 'laws.FnExactClientNew': WHATEVER THE INPUT: true; the input reads as it did. -/
def fnExactClientNewSpec : ChangeSpec := { name := "fnExactClientNew", fn := fun _ => fun
  | [d1, d2] => { results := [.lit (.bool true)], args := [d1, d2] }
  | _ => none }
def fnExactClientNewRow : OpenClaim := { program := "ytaicjimppcledaa", sum := "e6ce8775e1281b8b28a0a144b595ba2fac4370018d6517cbd8454137e429f3a4", func := "loop.example/g00074/laws.FnExactClientNew", spec := "fnExactClientNew", inPlace := ["internal/abi.NoEscape", "internal/bytealg.MakeNoZero"], apart := false }
def FnExactClientNewSaid : Prop := fnExactClientNewRow.holds Try.pinned (OpenSpec.ofChange fnExactClientNewSpec)

/-- ITS FALSE NEIGHBOUR: 'it returns false'. Refute it at one input. -/
def fnExactClientNewWrong : ChangeSpec := { name := "fnExactClientNew", fn := fun _ => fun
  | [d1, d2] => { results := [.lit (.bool false)], args := [d1, d2] }
  | _ => none }
def FnExactClientNewWrongFalsely : Prop := fnExactClientNewRow.holds Try.pinned (OpenSpec.ofChange fnExactClientNewWrong)

/-- 'laws.FnExactScannerNew': WHATEVER THE INPUT: true; the input reads as it did. -/
def fnExactScannerNewSpec : ChangeSpec := { name := "fnExactScannerNew", fn := fun _ => fun
  | [d1, d2] => { results := [.lit (.bool true)], args := [d1, d2] }
  | _ => none }
def fnExactScannerNewRow : OpenClaim := { program := "ytaicjimppcledaa", sum := "e6ce8775e1281b8b28a0a144b595ba2fac4370018d6517cbd8454137e429f3a4", func := "loop.example/g00074/laws.FnExactScannerNew", spec := "fnExactScannerNew", inPlace := ["internal/abi.NoEscape", "internal/bytealg.MakeNoZero"], apart := false }
def FnExactScannerNewSaid : Prop := fnExactScannerNewRow.holds Try.pinned (OpenSpec.ofChange fnExactScannerNewSpec)

/-- ITS FALSE NEIGHBOUR: 'it returns false'. Refute it at one input. -/
def fnExactScannerNewWrong : ChangeSpec := { name := "fnExactScannerNew", fn := fun _ => fun
  | [d1, d2] => { results := [.lit (.bool false)], args := [d1, d2] }
  | _ => none }
def FnExactScannerNewWrongFalsely : Prop := fnExactScannerNewRow.holds Try.pinned (OpenSpec.ofChange fnExactScannerNewWrong)

/-- 'laws.FnExactClientOk': WHATEVER THE INPUT: true; the input reads as it did. -/
def fnExactClientOkSpec : ChangeSpec := { name := "fnExactClientOk", fn := fun _ => fun
  | [d] => { results := [.lit (.bool true)], args := [d] }
  | _ => none }
def fnExactClientOkRow : OpenClaim := { program := "ytaicjimppcledaa", sum := "e6ce8775e1281b8b28a0a144b595ba2fac4370018d6517cbd8454137e429f3a4", func := "loop.example/g00074/laws.FnExactClientOk", spec := "fnExactClientOk", inPlace := ["internal/abi.NoEscape", "internal/bytealg.MakeNoZero"], apart := false }
def FnExactClientOkSaid : Prop := fnExactClientOkRow.holds Try.pinned (OpenSpec.ofChange fnExactClientOkSpec)

/-- ITS FALSE NEIGHBOUR: 'it returns false'. Refute it at one input. -/
def fnExactClientOkWrong : ChangeSpec := { name := "fnExactClientOk", fn := fun _ => fun
  | [d] => { results := [.lit (.bool false)], args := [d] }
  | _ => none }
def FnExactClientOkWrongFalsely : Prop := fnExactClientOkRow.holds Try.pinned (OpenSpec.ofChange fnExactClientOkWrong)

/- THE SECOND FORM. 'bulk': how many values and letters a reading holds, each counted each time it is reached (what is shared counts as often as it is met; a slice's spare places count too). A statement '..UptoSaid' is the law's where the arguments, and the package variables that the reading takes, are together of bulk at most 1048576: NARROWER than '..Said'. Prove '..Said' where nothing that the law and all that it calls make is longer than what came in: it says more and counts as full. Else prove '..UptoSaid'. A law counts once. -/
mutual
def uptoBulk {H : Type} : DataW H → Nat
  | .lit (.string bytes) => bytes.length + 1
  | .lit _ => 1
  | .nil => 1
  | .ptr d => uptoBulk d + 1
  | .slice elems spare => uptoBulkAll elems + uptoBulkAll spare + 1
  | .agg parts => uptoBulkAll parts + 1
  | .iface _ d => uptoBulk d + 1
  | .map entries => uptoBulkEntries entries + 1
  | .held _ => 1
def uptoBulkAll {H : Type} : List (DataW H) → Nat
  | [] => 0
  | d :: r => uptoBulk d + uptoBulkAll r
def uptoBulkEntries {H : Type} : List (Lit × DataW H) → Nat
  | [] => 0
  | x :: r => uptoBulkEntry x + uptoBulkEntries r
def uptoBulkEntry {H : Type} : Lit × DataW H → Nat
  | (.string bytes, d) => bytes.length + uptoBulk d + 1
  | (_, d) => uptoBulk d + 1
 end
def uptoSmall : (H : Type) → List (DataW H) → Bool := fun _ ds => decide (uptoBulkAll ds ≤ 1048576)
def OpenSpec.upto (s : _root_.Go.ChangeSpec) : _root_.Go.OpenSpec := { _root_.Go.OpenSpec.ofChange s with cond := some uptoSmall }

/-- 'laws.FnExactPreHash', WHERE WHAT IT READS IS OF BULK AT MOST 1048576: true; the input reads as it did. -/
def fnExactPreHashUptoRow : OpenClaim := { program := "ytaicjimppcledaa", sum := "e6ce8775e1281b8b28a0a144b595ba2fac4370018d6517cbd8454137e429f3a4", func := "loop.example/g00074/laws.FnExactPreHash", spec := "fnExactPreHash", inPlace := ["internal/abi.NoEscape", "internal/bytealg.MakeNoZero"], apart := false, narrowed := true }
def FnExactPreHashUptoSaid : Prop := fnExactPreHashUptoRow.holds Try.pinned (OpenSpec.upto fnExactPreHashSpec)

/-- 'laws.FnExactBroken', WHERE WHAT IT READS IS OF BULK AT MOST 1048576: true; the input reads as it did. -/
def fnExactBrokenUptoRow : OpenClaim := { program := "ytaicjimppcledaa", sum := "e6ce8775e1281b8b28a0a144b595ba2fac4370018d6517cbd8454137e429f3a4", func := "loop.example/g00074/laws.FnExactBroken", spec := "fnExactBroken", inPlace := ["internal/abi.NoEscape", "internal/bytealg.MakeNoZero"], apart := false, narrowed := true }
def FnExactBrokenUptoSaid : Prop := fnExactBrokenUptoRow.holds Try.pinned (OpenSpec.upto fnExactBrokenSpec)

/-- 'laws.FnExactEvidenceOk', WHERE WHAT IT READS IS OF BULK AT MOST 1048576: true; the input reads as it did. -/
def fnExactEvidenceOkUptoRow : OpenClaim := { program := "ytaicjimppcledaa", sum := "e6ce8775e1281b8b28a0a144b595ba2fac4370018d6517cbd8454137e429f3a4", func := "loop.example/g00074/laws.FnExactEvidenceOk", spec := "fnExactEvidenceOk", inPlace := ["internal/abi.NoEscape", "internal/bytealg.MakeNoZero"], apart := false, narrowed := true }
def FnExactEvidenceOkUptoSaid : Prop := fnExactEvidenceOkUptoRow.holds Try.pinned (OpenSpec.upto fnExactEvidenceOkSpec)

/-- 'laws.FnExactCompareHeads', WHERE WHAT IT READS IS OF BULK AT MOST 1048576: true; the input reads as it did. -/
def fnExactCompareHeadsUptoRow : OpenClaim := { program := "ytaicjimppcledaa", sum := "e6ce8775e1281b8b28a0a144b595ba2fac4370018d6517cbd8454137e429f3a4", func := "loop.example/g00074/laws.FnExactCompareHeads", spec := "fnExactCompareHeads", inPlace := ["internal/abi.NoEscape", "internal/bytealg.MakeNoZero"], apart := false, narrowed := true }
def FnExactCompareHeadsUptoSaid : Prop := fnExactCompareHeadsUptoRow.holds Try.pinned (OpenSpec.upto fnExactCompareHeadsSpec)

/-- 'laws.FnExactMeet', WHERE WHAT IT READS IS OF BULK AT MOST 1048576: true; the input reads as it did. -/
def fnExactMeetUptoRow : OpenClaim := { program := "ytaicjimppcledaa", sum := "e6ce8775e1281b8b28a0a144b595ba2fac4370018d6517cbd8454137e429f3a4", func := "loop.example/g00074/laws.FnExactMeet", spec := "fnExactMeet", inPlace := ["internal/abi.NoEscape", "internal/bytealg.MakeNoZero"], apart := false, narrowed := true }
def FnExactMeetUptoSaid : Prop := fnExactMeetUptoRow.holds Try.pinned (OpenSpec.upto fnExactMeetSpec)

/-- 'laws.FnExactEvidenceOf', WHERE WHAT IT READS IS OF BULK AT MOST 1048576: true; the input reads as it did. -/
def fnExactEvidenceOfUptoRow : OpenClaim := { program := "ytaicjimppcledaa", sum := "e6ce8775e1281b8b28a0a144b595ba2fac4370018d6517cbd8454137e429f3a4", func := "loop.example/g00074/laws.FnExactEvidenceOf", spec := "fnExactEvidenceOf", inPlace := ["internal/abi.NoEscape", "internal/bytealg.MakeNoZero"], apart := false, narrowed := true }
def FnExactEvidenceOfUptoSaid : Prop := fnExactEvidenceOfUptoRow.holds Try.pinned (OpenSpec.upto fnExactEvidenceOfSpec)

/-- 'laws.FnExactUnframe', WHERE WHAT IT READS IS OF BULK AT MOST 1048576: true; the input reads as it did. -/
def fnExactUnframeUptoRow : OpenClaim := { program := "ytaicjimppcledaa", sum := "e6ce8775e1281b8b28a0a144b595ba2fac4370018d6517cbd8454137e429f3a4", func := "loop.example/g00074/laws.FnExactUnframe", spec := "fnExactUnframe", inPlace := ["internal/abi.NoEscape", "internal/bytealg.MakeNoZero"], apart := false, narrowed := true }
def FnExactUnframeUptoSaid : Prop := fnExactUnframeUptoRow.holds Try.pinned (OpenSpec.upto fnExactUnframeSpec)

/-- 'laws.FnExactReadHead', WHERE WHAT IT READS IS OF BULK AT MOST 1048576: true; the input reads as it did. -/
def fnExactReadHeadUptoRow : OpenClaim := { program := "ytaicjimppcledaa", sum := "e6ce8775e1281b8b28a0a144b595ba2fac4370018d6517cbd8454137e429f3a4", func := "loop.example/g00074/laws.FnExactReadHead", spec := "fnExactReadHead", inPlace := ["internal/abi.NoEscape", "internal/bytealg.MakeNoZero"], apart := false, narrowed := true }
def FnExactReadHeadUptoSaid : Prop := fnExactReadHeadUptoRow.holds Try.pinned (OpenSpec.upto fnExactReadHeadSpec)

/-- 'laws.FnExactClientNew', WHERE WHAT IT READS IS OF BULK AT MOST 1048576: true; the input reads as it did. -/
def fnExactClientNewUptoRow : OpenClaim := { program := "ytaicjimppcledaa", sum := "e6ce8775e1281b8b28a0a144b595ba2fac4370018d6517cbd8454137e429f3a4", func := "loop.example/g00074/laws.FnExactClientNew", spec := "fnExactClientNew", inPlace := ["internal/abi.NoEscape", "internal/bytealg.MakeNoZero"], apart := false, narrowed := true }
def FnExactClientNewUptoSaid : Prop := fnExactClientNewUptoRow.holds Try.pinned (OpenSpec.upto fnExactClientNewSpec)

/-- 'laws.FnExactScannerNew', WHERE WHAT IT READS IS OF BULK AT MOST 1048576: true; the input reads as it did. -/
def fnExactScannerNewUptoRow : OpenClaim := { program := "ytaicjimppcledaa", sum := "e6ce8775e1281b8b28a0a144b595ba2fac4370018d6517cbd8454137e429f3a4", func := "loop.example/g00074/laws.FnExactScannerNew", spec := "fnExactScannerNew", inPlace := ["internal/abi.NoEscape", "internal/bytealg.MakeNoZero"], apart := false, narrowed := true }
def FnExactScannerNewUptoSaid : Prop := fnExactScannerNewUptoRow.holds Try.pinned (OpenSpec.upto fnExactScannerNewSpec)

/-- 'laws.FnExactClientOk', WHERE WHAT IT READS IS OF BULK AT MOST 1048576: true; the input reads as it did. -/
def fnExactClientOkUptoRow : OpenClaim := { program := "ytaicjimppcledaa", sum := "e6ce8775e1281b8b28a0a144b595ba2fac4370018d6517cbd8454137e429f3a4", func := "loop.example/g00074/laws.FnExactClientOk", spec := "fnExactClientOk", inPlace := ["internal/abi.NoEscape", "internal/bytealg.MakeNoZero"], apart := false, narrowed := true }
def FnExactClientOkUptoSaid : Prop := fnExactClientOkUptoRow.holds Try.pinned (OpenSpec.upto fnExactClientOkSpec)

end Rows
end Go.Proofs.Ytaicjimppcledaa

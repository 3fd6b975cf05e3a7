/-
  No cell of these rows narrows 'for every input' (looked for: loops, veiled, ifaces, maps, wideKeys, modest, calm, conditions, laid).
  DERIVED. THE GIVEN ROWS OF THIS SEAT. 10 by the template 'for every input the law returns true; each argument reads behind the call as it read before'; 0 by the template 'total and deterministic' (their statements: YtcpfgldcijkhlaaTotals.lean).
  GIVEN WITH THE SEED: the statements are not yours to turn. If you find one false, say at which input.
  Laid BY PROGRAM, IN A SANDBOX (cutbox-rows.mjs): the forced cells as the released guide's own fill.sh prints them over the translation c967787e4d0c668f… (all of the seat's roots in one cut). By AI agents, Wed Nov 11 2026. No macro, syntax, notation, axiom, sorry.
-/
import Derived.Test.YtcpfgldcijkhlaaChecked
import GoSem.Claim
import GoSem.ClaimJoined
import GoSem.ClaimMapViews
import Derived.JoinedTies
import Derived.KernelRfl
namespace Go.Proofs.Ytcpfgldcijkhlaa
/- THE CELL 'sum', in the pinned program and in every row, IS THE sha256 OF THE DUMP (.gsa) THAT YtcpfgldcijkhlaaProg.lean LOADS. Nothing in Lean hashes anything: it is a label: what it is worth is what the hold of that sum in a sandbox is worth. -/
noncomputable def Try.pinned : Pinned := { name := "ytcpfgldcijkhlaa", sum := "c967787e4d0c668f6aef2ac931555988531ab2ac91d63897c61c1ebb87f0e488", checked := Try.checked }
namespace Rows
def none {H : Type} : Left H := { results := [], args := [] }

/-- 'laws.FnLeafBack': WHATEVER THE INPUT: true; the input reads as it did. -/
def fnLeafBackSpec : ChangeSpec := { name := "fnLeafBack", fn := fun _ => fun
  | [d] => { results := [.lit (.bool true)], args := [d] }
  | _ => none }
def fnLeafBackRow : OpenClaim := { program := "ytcpfgldcijkhlaa", sum := "c967787e4d0c668f6aef2ac931555988531ab2ac91d63897c61c1ebb87f0e488", func := "loop.example/g00074/laws.FnLeafBack", spec := "fnLeafBack", apart := false }
def FnLeafBackSaid : Prop := fnLeafBackRow.holds Try.pinned (OpenSpec.ofChange fnLeafBackSpec)

/-- ITS FALSE NEIGHBOUR: 'it returns false'. Refute it at one input. -/
def fnLeafBackWrong : ChangeSpec := { name := "fnLeafBack", fn := fun _ => fun
  | [d] => { results := [.lit (.bool false)], args := [d] }
  | _ => none }
def FnLeafBackWrongFalsely : Prop := fnLeafBackRow.holds Try.pinned (OpenSpec.ofChange fnLeafBackWrong)

/-- 'laws.FnExactCursorOf': WHATEVER THE INPUT: true; the input reads as it did. -/
def fnExactCursorOfSpec : ChangeSpec := { name := "fnExactCursorOf", fn := fun _ => fun
  | [d1, d2] => { results := [.lit (.bool true)], args := [d1, d2] }
  | _ => none }
def fnExactCursorOfRow : OpenClaim := { program := "ytcpfgldcijkhlaa", sum := "c967787e4d0c668f6aef2ac931555988531ab2ac91d63897c61c1ebb87f0e488", func := "loop.example/g00074/laws.FnExactCursorOf", spec := "fnExactCursorOf", apart := false }
def FnExactCursorOfSaid : Prop := fnExactCursorOfRow.holds Try.pinned (OpenSpec.ofChange fnExactCursorOfSpec)

/-- ITS FALSE NEIGHBOUR: 'it returns false'. Refute it at one input. -/
def fnExactCursorOfWrong : ChangeSpec := { name := "fnExactCursorOf", fn := fun _ => fun
  | [d1, d2] => { results := [.lit (.bool false)], args := [d1, d2] }
  | _ => none }
def FnExactCursorOfWrongFalsely : Prop := fnExactCursorOfRow.holds Try.pinned (OpenSpec.ofChange fnExactCursorOfWrong)

/-- 'laws.FnExactGivenTo': WHATEVER THE INPUT: true; the input reads as it did. -/
def fnExactGivenToSpec : ChangeSpec := { name := "fnExactGivenTo", fn := fun _ => fun
  | [d1, d2, d3] => { results := [.lit (.bool true)], args := [d1, d2, d3] }
  | _ => none }
def fnExactGivenToRow : OpenClaim := { program := "ytcpfgldcijkhlaa", sum := "c967787e4d0c668f6aef2ac931555988531ab2ac91d63897c61c1ebb87f0e488", func := "loop.example/g00074/laws.FnExactGivenTo", spec := "fnExactGivenTo", apart := false }
def FnExactGivenToSaid : Prop := fnExactGivenToRow.holds Try.pinned (OpenSpec.ofChange fnExactGivenToSpec)

/-- ITS FALSE NEIGHBOUR: 'it returns false'. Refute it at one input. -/
def fnExactGivenToWrong : ChangeSpec := { name := "fnExactGivenTo", fn := fun _ => fun
  | [d1, d2, d3] => { results := [.lit (.bool false)], args := [d1, d2, d3] }
  | _ => none }
def FnExactGivenToWrongFalsely : Prop := fnExactGivenToRow.holds Try.pinned (OpenSpec.ofChange fnExactGivenToWrong)

/-- 'laws.FnLeafOne': WHATEVER THE INPUT: true; the input reads as it did. -/
def fnLeafOneSpec : ChangeSpec := { name := "fnLeafOne", fn := fun _ => fun
  | [d] => { results := [.lit (.bool true)], args := [d] }
  | _ => none }
def fnLeafOneRow : OpenClaim := { program := "ytcpfgldcijkhlaa", sum := "c967787e4d0c668f6aef2ac931555988531ab2ac91d63897c61c1ebb87f0e488", func := "loop.example/g00074/laws.FnLeafOne", spec := "fnLeafOne", apart := false }
def FnLeafOneSaid : Prop := fnLeafOneRow.holds Try.pinned (OpenSpec.ofChange fnLeafOneSpec)

/-- ITS FALSE NEIGHBOUR: 'it returns false'. Refute it at one input. -/
def fnLeafOneWrong : ChangeSpec := { name := "fnLeafOne", fn := fun _ => fun
  | [d] => { results := [.lit (.bool false)], args := [d] }
  | _ => none }
def FnLeafOneWrongFalsely : Prop := fnLeafOneRow.holds Try.pinned (OpenSpec.ofChange fnLeafOneWrong)

/-- 'laws.FnExactMeet': WHATEVER THE INPUT: true; the input reads as it did. -/
def fnExactMeetSpec : ChangeSpec := { name := "fnExactMeet", fn := fun _ => fun
  | [d1, d2] => { results := [.lit (.bool true)], args := [d1, d2] }
  | _ => none }
def fnExactMeetRow : OpenClaim := { program := "ytcpfgldcijkhlaa", sum := "c967787e4d0c668f6aef2ac931555988531ab2ac91d63897c61c1ebb87f0e488", func := "loop.example/g00074/laws.FnExactMeet", spec := "fnExactMeet", inPlace := ["internal/abi.NoEscape", "internal/bytealg.MakeNoZero"], apart := false }
def FnExactMeetSaid : Prop := fnExactMeetRow.holds Try.pinned (OpenSpec.ofChange fnExactMeetSpec)

/-- ITS FALSE NEIGHBOUR: 'it returns false'. Refute it at one input. -/
def fnExactMeetWrong : ChangeSpec := { name := "fnExactMeet", fn := fun _ => fun
  | [d1, d2] => { results := [.lit (.bool false)], args := [d1, d2] }
  | _ => none }
def FnExactMeetWrongFalsely : Prop := fnExactMeetRow.holds Try.pinned (OpenSpec.ofChange fnExactMeetWrong)

/-- 'laws.FnForks': WHATEVER THE INPUT: true; the input reads as it did. -/
def fnForksSpec : ChangeSpec := { name := "fnForks", fn := fun _ => fun
  | [d] => { results := [.lit (.bool true)], args := [d] }
  | _ => none }
def fnForksRow : OpenClaim := { program := "ytcpfgldcijkhlaa", sum := "c967787e4d0c668f6aef2ac931555988531ab2ac91d63897c61c1ebb87f0e488", func := "loop.example/g00074/laws.FnForks", spec := "fnForks", inPlace := ["internal/abi.NoEscape", "internal/bytealg.MakeNoZero"], apart := false }
def FnForksSaid : Prop := fnForksRow.holds Try.pinned (OpenSpec.ofChange fnForksSpec)

/-- ITS FALSE NEIGHBOUR: 'it returns false'. Refute it at one input. -/
def fnForksWrong : ChangeSpec := { name := "fnForks", fn := fun _ => fun
  | [d] => { results := [.lit (.bool false)], args := [d] }
  | _ => none }
def FnForksWrongFalsely : Prop := fnForksRow.holds Try.pinned (OpenSpec.ofChange fnForksWrong)

/-- 'laws.FnFrames': WHATEVER THE INPUT: true; the input reads as it did. -/
def fnFramesSpec : ChangeSpec := { name := "fnFrames", fn := fun _ => fun
  | [d] => { results := [.lit (.bool true)], args := [d] }
  | _ => none }
def fnFramesRow : OpenClaim := { program := "ytcpfgldcijkhlaa", sum := "c967787e4d0c668f6aef2ac931555988531ab2ac91d63897c61c1ebb87f0e488", func := "loop.example/g00074/laws.FnFrames", spec := "fnFrames", inPlace := ["internal/abi.NoEscape", "internal/bytealg.MakeNoZero"], apart := false }
def FnFramesSaid : Prop := fnFramesRow.holds Try.pinned (OpenSpec.ofChange fnFramesSpec)

/-- ITS FALSE NEIGHBOUR: 'it returns false'. Refute it at one input. -/
def fnFramesWrong : ChangeSpec := { name := "fnFrames", fn := fun _ => fun
  | [d] => { results := [.lit (.bool false)], args := [d] }
  | _ => none }
def FnFramesWrongFalsely : Prop := fnFramesRow.holds Try.pinned (OpenSpec.ofChange fnFramesWrong)

/-- 'laws.FnExactScannerOk': WHATEVER THE INPUT: true; the input reads as it did. -/
def fnExactScannerOkSpec : ChangeSpec := { name := "fnExactScannerOk", fn := fun _ => fun
  | [d] => { results := [.lit (.bool true)], args := [d] }
  | _ => none }
def fnExactScannerOkRow : OpenClaim := { program := "ytcpfgldcijkhlaa", sum := "c967787e4d0c668f6aef2ac931555988531ab2ac91d63897c61c1ebb87f0e488", func := "loop.example/g00074/laws.FnExactScannerOk", spec := "fnExactScannerOk", inPlace := ["internal/abi.NoEscape", "internal/bytealg.MakeNoZero"], apart := false }
def FnExactScannerOkSaid : Prop := fnExactScannerOkRow.holds Try.pinned (OpenSpec.ofChange fnExactScannerOkSpec)

/-- ITS FALSE NEIGHBOUR: 'it returns false'. Refute it at one input. -/
def fnExactScannerOkWrong : ChangeSpec := { name := "fnExactScannerOk", fn := fun _ => fun
  | [d] => { results := [.lit (.bool false)], args := [d] }
  | _ => none }
def FnExactScannerOkWrongFalsely : Prop := fnExactScannerOkRow.holds Try.pinned (OpenSpec.ofChange fnExactScannerOkWrong)

/-- 'laws.FnTwoProofs': WHATEVER THE INPUT: true; the input reads as it did. -/
def fnTwoProofsSpec : ChangeSpec := { name := "fnTwoProofs", fn := fun _ => fun
  | [d] => { results := [.lit (.bool true)], args := [d] }
  | _ => none }
def fnTwoProofsRow : OpenClaim := { program := "ytcpfgldcijkhlaa", sum := "c967787e4d0c668f6aef2ac931555988531ab2ac91d63897c61c1ebb87f0e488", func := "loop.example/g00074/laws.FnTwoProofs", spec := "fnTwoProofs", inPlace := ["internal/abi.NoEscape", "internal/bytealg.MakeNoZero"], recurses := true, apart := false }
def FnTwoProofsSaid : Prop := fnTwoProofsRow.holds Try.pinned (OpenSpec.ofChange fnTwoProofsSpec)

/-- ITS FALSE NEIGHBOUR: 'it returns false'. Refute it at one input. -/
def fnTwoProofsWrong : ChangeSpec := { name := "fnTwoProofs", fn := fun _ => fun
  | [d] => { results := [.lit (.bool false)], args := [d] }
  | _ => none }
def FnTwoProofsWrongFalsely : Prop := fnTwoProofsRow.holds Try.pinned (OpenSpec.ofChange fnTwoProofsWrong)

/-- 'laws.FnExactSameStory': WHATEVER THE INPUT: true; the input reads as it did. -/
def fnExactSameStorySpec : ChangeSpec := { name := "fnExactSameStory", fn := fun _ => fun
  | [d1, d2, d3] => { results := [.lit (.bool true)], args := [d1, d2, d3] }
  | _ => none }
def fnExactSameStoryRow : OpenClaim := { program := "ytcpfgldcijkhlaa", sum := "c967787e4d0c668f6aef2ac931555988531ab2ac91d63897c61c1ebb87f0e488", func := "loop.example/g00074/laws.FnExactSameStory", spec := "fnExactSameStory", apart := false }
def FnExactSameStorySaid : Prop := fnExactSameStoryRow.holds Try.pinned (OpenSpec.ofChange fnExactSameStorySpec)

/-- ITS FALSE NEIGHBOUR: 'it returns false'. Refute it at one input. -/
def fnExactSameStoryWrong : ChangeSpec := { name := "fnExactSameStory", fn := fun _ => fun
  | [d1, d2, d3] => { results := [.lit (.bool false)], args := [d1, d2, d3] }
  | _ => none }
def FnExactSameStoryWrongFalsely : Prop := fnExactSameStoryRow.holds Try.pinned (OpenSpec.ofChange fnExactSameStoryWrong)

/- THE SECOND FORM. 'bulk': how many values and letters a reading holds, each counted each time it is reached (what is shared counts as often as it is met; a slice's spare places count too). A statement '..UptoSaid' is the law's where the arguments, and the package variables that the reading takes, are together of bulk at most 1048576: NARROWER than '..Said'. Prove '..Said' where nothing that the law and all that it calls make is longer than what came in: it says more and counts as full. Else prove '..UptoSaid'. A law counts once. -/
mutual
def uptoBulk {H : Type} : DataW H → Nat
  | .lit (.string bytes) => bytes.length + 1
  | .lit _ => 1
  | .nil => 1
  | .ptr d => uptoBulk d + 1
  | .slice elems spare => uptoBulkAll elems + uptoBulkAll spare + 1
  | .agg parts => uptoBulkAll parts + 1
  | .iface _ d => uptoBulk d + 1
  | .map entries => uptoBulkEntries entries + 1
  | .held _ => 1
def uptoBulkAll {H : Type} : List (DataW H) → Nat
  | [] => 0
  | d :: r => uptoBulk d + uptoBulkAll r
def uptoBulkEntries {H : Type} : List (Lit × DataW H) → Nat
  | [] => 0
  | x :: r => uptoBulkEntry x + uptoBulkEntries r
def uptoBulkEntry {H : Type} : Lit × DataW H → Nat
  | (.string bytes, d) => bytes.length + uptoBulk d + 1
  | (_, d) => uptoBulk d + 1
 end
def uptoSmall : (H : Type) → List (DataW H) → Bool := fun _ ds => decide (uptoBulkAll ds ≤ 1048576)
def OpenSpec.upto (s : _root_.Go.ChangeSpec) : _root_.Go.OpenSpec := { _root_.Go.OpenSpec.ofChange s with cond := some uptoSmall }

/-- 'laws.FnLeafBack', WHERE WHAT IT READS IS OF BULK AT MOST 1048576: true; the input reads as it did. -/
def fnLeafBackUptoRow : OpenClaim := { program := "ytcpfgldcijkhlaa", sum := "c967787e4d0c668f6aef2ac931555988531ab2ac91d63897c61c1ebb87f0e488", func := "loop.example/g00074/laws.FnLeafBack", spec := "fnLeafBack", apart := false, narrowed := true }
def FnLeafBackUptoSaid : Prop := fnLeafBackUptoRow.holds Try.pinned (OpenSpec.upto fnLeafBackSpec)

/-- 'laws.FnExactCursorOf', WHERE WHAT IT READS IS OF BULK AT MOST 1048576: true; the input reads as it did. -/
def fnExactCursorOfUptoRow : OpenClaim := { program := "ytcpfgldcijkhlaa", sum := "c967787e4d0c668f6aef2ac931555988531ab2ac91d63897c61c1ebb87f0e488", func := "loop.example/g00074/laws.FnExactCursorOf", spec := "fnExactCursorOf", apart := false, narrowed := true }
def FnExactCursorOfUptoSaid : Prop := fnExactCursorOfUptoRow.holds Try.pinned (OpenSpec.upto fnExactCursorOfSpec)

/-- 'laws.FnExactGivenTo', WHERE WHAT IT READS IS OF BULK AT MOST 1048576: true; the input reads as it did. -/
def fnExactGivenToUptoRow : OpenClaim := { program := "ytcpfgldcijkhlaa", sum := "c967787e4d0c668f6aef2ac931555988531ab2ac91d63897c61c1ebb87f0e488", func := "loop.example/g00074/laws.FnExactGivenTo", spec := "fnExactGivenTo", apart := false, narrowed := true }
def FnExactGivenToUptoSaid : Prop := fnExactGivenToUptoRow.holds Try.pinned (OpenSpec.upto fnExactGivenToSpec)

/-- 'laws.FnLeafOne', WHERE WHAT IT READS IS OF BULK AT MOST 1048576: true; the input reads as it did. -/
def fnLeafOneUptoRow : OpenClaim := { program := "ytcpfgldcijkhlaa", sum := "c967787e4d0c668f6aef2ac931555988531ab2ac91d63897c61c1ebb87f0e488", func := "loop.example/g00074/laws.FnLeafOne", spec := "fnLeafOne", apart := false, narrowed := true }
def FnLeafOneUptoSaid : Prop := fnLeafOneUptoRow.holds Try.pinned (OpenSpec.upto fnLeafOneSpec)

/-- 'laws.FnExactMeet', WHERE WHAT IT READS IS OF BULK AT MOST 1048576: true; the input reads as it did. -/
def fnExactMeetUptoRow : OpenClaim := { program := "ytcpfgldcijkhlaa", sum := "c967787e4d0c668f6aef2ac931555988531ab2ac91d63897c61c1ebb87f0e488", func := "loop.example/g00074/laws.FnExactMeet", spec := "fnExactMeet", inPlace := ["internal/abi.NoEscape", "internal/bytealg.MakeNoZero"], apart := false, narrowed := true }
def FnExactMeetUptoSaid : Prop := fnExactMeetUptoRow.holds Try.pinned (OpenSpec.upto fnExactMeetSpec)

/-- 'laws.FnForks', WHERE WHAT IT READS IS OF BULK AT MOST 1048576: true; the input reads as it did. -/
def fnForksUptoRow : OpenClaim := { program := "ytcpfgldcijkhlaa", sum := "c967787e4d0c668f6aef2ac931555988531ab2ac91d63897c61c1ebb87f0e488", func := "loop.example/g00074/laws.FnForks", spec := "fnForks", inPlace := ["internal/abi.NoEscape", "internal/bytealg.MakeNoZero"], apart := false, narrowed := true }
def FnForksUptoSaid : Prop := fnForksUptoRow.holds Try.pinned (OpenSpec.upto fnForksSpec)

/-- 'laws.FnFrames', WHERE WHAT IT READS IS OF BULK AT MOST 1048576: true; the input reads as it did. -/
def fnFramesUptoRow : OpenClaim := { program := "ytcpfgldcijkhlaa", sum := "c967787e4d0c668f6aef2ac931555988531ab2ac91d63897c61c1ebb87f0e488", func := "loop.example/g00074/laws.FnFrames", spec := "fnFrames", inPlace := ["internal/abi.NoEscape", "internal/bytealg.MakeNoZero"], apart := false, narrowed := true }
def FnFramesUptoSaid : Prop := fnFramesUptoRow.holds Try.pinned (OpenSpec.upto fnFramesSpec)

/-- 'laws.FnExactScannerOk', WHERE WHAT IT READS IS OF BULK AT MOST 1048576: true; the input reads as it did. -/
def fnExactScannerOkUptoRow : OpenClaim := { program := "ytcpfgldcijkhlaa", sum := "c967787e4d0c668f6aef2ac931555988531ab2ac91d63897c61c1ebb87f0e488", func := "loop.example/g00074/laws.FnExactScannerOk", spec := "fnExactScannerOk", inPlace := ["internal/abi.NoEscape", "internal/bytealg.MakeNoZero"], apart := false, narrowed := true }
def FnExactScannerOkUptoSaid : Prop := fnExactScannerOkUptoRow.holds Try.pinned (OpenSpec.upto fnExactScannerOkSpec)

/-- 'laws.FnTwoProofs', WHERE WHAT IT READS IS OF BULK AT MOST 1048576: true; the input reads as it did. -/
def fnTwoProofsUptoRow : OpenClaim := { program := "ytcpfgldcijkhlaa", sum := "c967787e4d0c668f6aef2ac931555988531ab2ac91d63897c61c1ebb87f0e488", func := "loop.example/g00074/laws.FnTwoProofs", spec := "fnTwoProofs", inPlace := ["internal/abi.NoEscape", "internal/bytealg.MakeNoZero"], recurses := true, apart := false, narrowed := true }
def FnTwoProofsUptoSaid : Prop := fnTwoProofsUptoRow.holds Try.pinned (OpenSpec.upto fnTwoProofsSpec)

/-- 'laws.FnExactSameStory', WHERE WHAT IT READS IS OF BULK AT MOST 1048576: true; the input reads as it did. -/
def fnExactSameStoryUptoRow : OpenClaim := { program := "ytcpfgldcijkhlaa", sum := "c967787e4d0c668f6aef2ac931555988531ab2ac91d63897c61c1ebb87f0e488", func := "loop.example/g00074/laws.FnExactSameStory", spec := "fnExactSameStory", apart := false, narrowed := true }
def FnExactSameStoryUptoSaid : Prop := fnExactSameStoryUptoRow.holds Try.pinned (OpenSpec.upto fnExactSameStorySpec)

end Rows
end Go.Proofs.Ytcpfgldcijkhlaa

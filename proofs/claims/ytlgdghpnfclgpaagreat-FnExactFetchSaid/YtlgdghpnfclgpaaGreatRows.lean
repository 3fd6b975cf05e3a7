/-
  No cell of these rows narrows 'for every input' (looked for: loops, veiled, ifaces, maps, wideKeys, modest, calm, conditions, laid).
  DERIVED. THE GIVEN ROWS OF THIS SEAT. 6 by the template 'for every input the law returns true; each argument reads behind the call as it read before'; 0 by the template 'total and deterministic' (their statements: YtlgdghpnfclgpaaGreatTotals.lean).
  GIVEN WITH THE SEED: the statements are not yours to turn. If you find one false, say at which input.
  Laid BY PROGRAM, IN A SANDBOX (cutbox-rows.mjs): the forced cells as the released guide's own fill.sh prints them over the translation 01a9013312e8cfaf… (all of the seat's roots in one cut). By AI agents, Wed Nov 11 2026. No macro, syntax, notation, axiom, sorry.
-/
import Derived.Test.YtlgdghpnfclgpaaGreatChecked
import GoSem.Claim
import GoSem.ClaimJoined
import GoSem.ClaimMapViews
import Derived.JoinedTies
import Derived.KernelRfl
namespace Go.Proofs.YtlgdghpnfclgpaaGreat
/- THE CELL 'sum', in the pinned program and in every row, IS THE sha256 OF THE DUMP (.gsa) THAT YtlgdghpnfclgpaaGreatProg.lean LOADS. Nothing in Lean hashes anything: it is a label: what it is worth is what the hold of that sum in a sandbox is worth. -/
noncomputable def Tryz.pinned : Pinned := { name := "ytlgdghpnfclgpaagreat", sum := "01a9013312e8cfafe75ccef2a7fc29edea1032ff556f39eba97c4a230246eb73", checked := Tryz.checked }
namespace Rows
def none {H : Type} : Left H := { results := [], args := [] }

/-- 'laws.FnExactMended': WHATEVER THE INPUT: true; the input reads as it did. -/
def fnExactMendedSpec : ChangeSpec := { name := "fnExactMended", fn := fun _ => fun
  | [d1, d2] => { results := [.lit (.bool true)], args := [d1, d2] }
  | _ => none }
def fnExactMendedRow : OpenClaim := { program := "ytlgdghpnfclgpaagreat", sum := "01a9013312e8cfafe75ccef2a7fc29edea1032ff556f39eba97c4a230246eb73", func := "loop.example/g00074/laws.FnExactMended", spec := "fnExactMended", inPlace := ["internal/abi.NoEscape", "internal/bytealg.MakeNoZero"], unfollowed := true, recurses := true, plainKeys := false, apart := false }
def FnExactMendedSaid : Prop := fnExactMendedRow.holds Tryz.pinned (OpenSpec.ofChange fnExactMendedSpec)

/-- ITS FALSE NEIGHBOUR: 'it returns false'. Refute it at one input. -/
def fnExactMendedWrong : ChangeSpec := { name := "fnExactMended", fn := fun _ => fun
  | [d1, d2] => { results := [.lit (.bool false)], args := [d1, d2] }
  | _ => none }
def FnExactMendedWrongFalsely : Prop := fnExactMendedRow.holds Tryz.pinned (OpenSpec.ofChange fnExactMendedWrong)

/-- 'laws.FnExactFetch': WHATEVER THE INPUT: true; the input reads as it did. -/
def fnExactFetchSpec : ChangeSpec := { name := "fnExactFetch", fn := fun _ => fun
  | [d1, d2, d3, d4] => { results := [.lit (.bool true)], args := [d1, d2, d3, d4] }
  | _ => none }
def fnExactFetchRow : OpenClaim := { program := "ytlgdghpnfclgpaagreat", sum := "01a9013312e8cfafe75ccef2a7fc29edea1032ff556f39eba97c4a230246eb73", func := "loop.example/g00074/laws.FnExactFetch", spec := "fnExactFetch", inPlace := ["internal/abi.NoEscape", "internal/bytealg.MakeNoZero"], unfollowed := true, recurses := true, plainKeys := false, apart := false }
def FnExactFetchSaid : Prop := fnExactFetchRow.holds Tryz.pinned (OpenSpec.ofChange fnExactFetchSpec)

/-- ITS FALSE NEIGHBOUR: 'it returns false'. Refute it at one input. -/
def fnExactFetchWrong : ChangeSpec := { name := "fnExactFetch", fn := fun _ => fun
  | [d1, d2, d3, d4] => { results := [.lit (.bool false)], args := [d1, d2, d3, d4] }
  | _ => none }
def FnExactFetchWrongFalsely : Prop := fnExactFetchRow.holds Tryz.pinned (OpenSpec.ofChange fnExactFetchWrong)

/-- 'laws.FnExactReopen': WHATEVER THE INPUT: true; the input reads as it did. -/
def fnExactReopenSpec : ChangeSpec := { name := "fnExactReopen", fn := fun _ => fun
  | [d1, d2] => { results := [.lit (.bool true)], args := [d1, d2] }
  | _ => none }
def fnExactReopenRow : OpenClaim := { program := "ytlgdghpnfclgpaagreat", sum := "01a9013312e8cfafe75ccef2a7fc29edea1032ff556f39eba97c4a230246eb73", func := "loop.example/g00074/laws.FnExactReopen", spec := "fnExactReopen", inPlace := ["internal/abi.NoEscape", "internal/bytealg.MakeNoZero"], unfollowed := true, recurses := true, plainKeys := false, apart := false }
def FnExactReopenSaid : Prop := fnExactReopenRow.holds Tryz.pinned (OpenSpec.ofChange fnExactReopenSpec)

/-- ITS FALSE NEIGHBOUR: 'it returns false'. Refute it at one input. -/
def fnExactReopenWrong : ChangeSpec := { name := "fnExactReopen", fn := fun _ => fun
  | [d1, d2] => { results := [.lit (.bool false)], args := [d1, d2] }
  | _ => none }
def FnExactReopenWrongFalsely : Prop := fnExactReopenRow.holds Tryz.pinned (OpenSpec.ofChange fnExactReopenWrong)

/-- 'laws.FnExactTakeReceipt': WHATEVER THE INPUT: true; the input reads as it did. -/
def fnExactTakeReceiptSpec : ChangeSpec := { name := "fnExactTakeReceipt", fn := fun _ => fun
  | [d1, d2] => { results := [.lit (.bool true)], args := [d1, d2] }
  | _ => none }
def fnExactTakeReceiptRow : OpenClaim := { program := "ytlgdghpnfclgpaagreat", sum := "01a9013312e8cfafe75ccef2a7fc29edea1032ff556f39eba97c4a230246eb73", func := "loop.example/g00074/laws.FnExactTakeReceipt", spec := "fnExactTakeReceipt", inPlace := ["internal/abi.NoEscape", "internal/bytealg.MakeNoZero"], unfollowed := true, recurses := true, plainKeys := false, apart := false }
def FnExactTakeReceiptSaid : Prop := fnExactTakeReceiptRow.holds Tryz.pinned (OpenSpec.ofChange fnExactTakeReceiptSpec)

/-- ITS FALSE NEIGHBOUR: 'it returns false'. Refute it at one input. -/
def fnExactTakeReceiptWrong : ChangeSpec := { name := "fnExactTakeReceipt", fn := fun _ => fun
  | [d1, d2] => { results := [.lit (.bool false)], args := [d1, d2] }
  | _ => none }
def FnExactTakeReceiptWrongFalsely : Prop := fnExactTakeReceiptRow.holds Tryz.pinned (OpenSpec.ofChange fnExactTakeReceiptWrong)

/-- 'laws.FnExactPublish': WHATEVER THE INPUT: true; the input reads as it did. -/
def fnExactPublishSpec : ChangeSpec := { name := "fnExactPublish", fn := fun _ => fun
  | [d1, d2, d3, d4, d5] => { results := [.lit (.bool true)], args := [d1, d2, d3, d4, d5] }
  | _ => none }
def fnExactPublishRow : OpenClaim := { program := "ytlgdghpnfclgpaagreat", sum := "01a9013312e8cfafe75ccef2a7fc29edea1032ff556f39eba97c4a230246eb73", func := "loop.example/g00074/laws.FnExactPublish", spec := "fnExactPublish", inPlace := ["internal/abi.NoEscape", "internal/bytealg.MakeNoZero"], unfollowed := true, recurses := true, plainKeys := false, apart := false }
def FnExactPublishSaid : Prop := fnExactPublishRow.holds Tryz.pinned (OpenSpec.ofChange fnExactPublishSpec)

/-- ITS FALSE NEIGHBOUR: 'it returns false'. Refute it at one input. -/
def fnExactPublishWrong : ChangeSpec := { name := "fnExactPublish", fn := fun _ => fun
  | [d1, d2, d3, d4, d5] => { results := [.lit (.bool false)], args := [d1, d2, d3, d4, d5] }
  | _ => none }
def FnExactPublishWrongFalsely : Prop := fnExactPublishRow.holds Tryz.pinned (OpenSpec.ofChange fnExactPublishWrong)

/-- 'laws.FnExactSealNow': WHATEVER THE INPUT: true; the input reads as it did. -/
def fnExactSealNowSpec : ChangeSpec := { name := "fnExactSealNow", fn := fun _ => fun
  | [d] => { results := [.lit (.bool true)], args := [d] }
  | _ => none }
def fnExactSealNowRow : OpenClaim := { program := "ytlgdghpnfclgpaagreat", sum := "01a9013312e8cfafe75ccef2a7fc29edea1032ff556f39eba97c4a230246eb73", func := "loop.example/g00074/laws.FnExactSealNow", spec := "fnExactSealNow", inPlace := ["internal/abi.NoEscape", "internal/bytealg.MakeNoZero"], unfollowed := true, recurses := true, plainKeys := false, apart := false }
def FnExactSealNowSaid : Prop := fnExactSealNowRow.holds Tryz.pinned (OpenSpec.ofChange fnExactSealNowSpec)

/-- ITS FALSE NEIGHBOUR: 'it returns false'. Refute it at one input. -/
def fnExactSealNowWrong : ChangeSpec := { name := "fnExactSealNow", fn := fun _ => fun
  | [d] => { results := [.lit (.bool false)], args := [d] }
  | _ => none }
def FnExactSealNowWrongFalsely : Prop := fnExactSealNowRow.holds Tryz.pinned (OpenSpec.ofChange fnExactSealNowWrong)

/- THE SECOND FORM. 'bulk': how many values and letters a reading holds, each counted each time it is reached (what is shared counts as often as it is met; a slice's spare places count too). A statement '..UptoSaid' is the law's where the arguments, and the package variables that the reading takes, are together of bulk at most 1048576: NARROWER than '..Said'. Prove '..Said' where nothing that the law and all that it calls make is longer than what came in: it says more and counts as full. Else prove '..UptoSaid'. A law counts once. -/
mutual
def uptoBulk {H : Type} : DataW H → Nat
  | .lit (.string bytes) => bytes.length + 1
  | .lit _ => 1
  | .nil => 1
  | .ptr d => uptoBulk d + 1
  | .slice elems spare => uptoBulkAll elems + uptoBulkAll spare + 1
  | .agg parts => uptoBulkAll parts + 1
  | .iface _ d => uptoBulk d + 1
  | .map entries => uptoBulkEntries entries + 1
  | .held _ => 1
def uptoBulkAll {H : Type} : List (DataW H) → Nat
  | [] => 0
  | d :: r => uptoBulk d + uptoBulkAll r
def uptoBulkEntries {H : Type} : List (Lit × DataW H) → Nat
  | [] => 0
  | x :: r => uptoBulkEntry x + uptoBulkEntries r
def uptoBulkEntry {H : Type} : Lit × DataW H → Nat
  | (.string bytes, d) => bytes.length + uptoBulk d + 1
  | (_, d) => uptoBulk d + 1
 end
def uptoSmall : (H : Type) → List (DataW H) → Bool := fun _ ds => decide (uptoBulkAll ds ≤ 1048576)
def OpenSpec.upto (s : _root_.Go.ChangeSpec) : _root_.Go.OpenSpec := { _root_.Go.OpenSpec.ofChange s with cond := some uptoSmall }

/-- 'laws.FnExactMended', WHERE WHAT IT READS IS OF BULK AT MOST 1048576: true; the input reads as it did. -/
def fnExactMendedUptoRow : OpenClaim := { program := "ytlgdghpnfclgpaagreat", sum := "01a9013312e8cfafe75ccef2a7fc29edea1032ff556f39eba97c4a230246eb73", func := "loop.example/g00074/laws.FnExactMended", spec := "fnExactMended", inPlace := ["internal/abi.NoEscape", "internal/bytealg.MakeNoZero"], unfollowed := true, recurses := true, plainKeys := false, apart := false, narrowed := true }
def FnExactMendedUptoSaid : Prop := fnExactMendedUptoRow.holds Tryz.pinned (OpenSpec.upto fnExactMendedSpec)

/-- 'laws.FnExactFetch', WHERE WHAT IT READS IS OF BULK AT MOST 1048576: true; the input reads as it did. -/
def fnExactFetchUptoRow : OpenClaim := { program := "ytlgdghpnfclgpaagreat", sum := "01a9013312e8cfafe75ccef2a7fc29edea1032ff556f39eba97c4a230246eb73", func := "loop.example/g00074/laws.FnExactFetch", spec := "fnExactFetch", inPlace := ["internal/abi.NoEscape", "internal/bytealg.MakeNoZero"], unfollowed := true, recurses := true, plainKeys := false, apart := false, narrowed := true }
def FnExactFetchUptoSaid : Prop := fnExactFetchUptoRow.holds Tryz.pinned (OpenSpec.upto fnExactFetchSpec)

/-- 'laws.FnExactReopen', WHERE WHAT IT READS IS OF BULK AT MOST 1048576: true; the input reads as it did. -/
def fnExactReopenUptoRow : OpenClaim := { program := "ytlgdghpnfclgpaagreat", sum := "01a9013312e8cfafe75ccef2a7fc29edea1032ff556f39eba97c4a230246eb73", func := "loop.example/g00074/laws.FnExactReopen", spec := "fnExactReopen", inPlace := ["internal/abi.NoEscape", "internal/bytealg.MakeNoZero"], unfollowed := true, recurses := true, plainKeys := false, apart := false, narrowed := true }
def FnExactReopenUptoSaid : Prop := fnExactReopenUptoRow.holds Tryz.pinned (OpenSpec.upto fnExactReopenSpec)

/-- 'laws.FnExactTakeReceipt', WHERE WHAT IT READS IS OF BULK AT MOST 1048576: true; the input reads as it did. -/
def fnExactTakeReceiptUptoRow : OpenClaim := { program := "ytlgdghpnfclgpaagreat", sum := "01a9013312e8cfafe75ccef2a7fc29edea1032ff556f39eba97c4a230246eb73", func := "loop.example/g00074/laws.FnExactTakeReceipt", spec := "fnExactTakeReceipt", inPlace := ["internal/abi.NoEscape", "internal/bytealg.MakeNoZero"], unfollowed := true, recurses := true, plainKeys := false, apart := false, narrowed := true }
def FnExactTakeReceiptUptoSaid : Prop := fnExactTakeReceiptUptoRow.holds Tryz.pinned (OpenSpec.upto fnExactTakeReceiptSpec)

/-- 'laws.FnExactPublish', WHERE WHAT IT READS IS OF BULK AT MOST 1048576: true; the input reads as it did. -/
def fnExactPublishUptoRow : OpenClaim := { program := "ytlgdghpnfclgpaagreat", sum := "01a9013312e8cfafe75ccef2a7fc29edea1032ff556f39eba97c4a230246eb73", func := "loop.example/g00074/laws.FnExactPublish", spec := "fnExactPublish", inPlace := ["internal/abi.NoEscape", "internal/bytealg.MakeNoZero"], unfollowed := true, recurses := true, plainKeys := false, apart := false, narrowed := true }
def FnExactPublishUptoSaid : Prop := fnExactPublishUptoRow.holds Tryz.pinned (OpenSpec.upto fnExactPublishSpec)

/-- 'laws.FnExactSealNow', WHERE WHAT IT READS IS OF BULK AT MOST 1048576: true; the input reads as it did. -/
def fnExactSealNowUptoRow : OpenClaim := { program := "ytlgdghpnfclgpaagreat", sum := "01a9013312e8cfafe75ccef2a7fc29edea1032ff556f39eba97c4a230246eb73", func := "loop.example/g00074/laws.FnExactSealNow", spec := "fnExactSealNow", inPlace := ["internal/abi.NoEscape", "internal/bytealg.MakeNoZero"], unfollowed := true, recurses := true, plainKeys := false, apart := false, narrowed := true }
def FnExactSealNowUptoSaid : Prop := fnExactSealNowUptoRow.holds Tryz.pinned (OpenSpec.upto fnExactSealNowSpec)

end Rows
end Go.Proofs.YtlgdghpnfclgpaaGreat

/-
  No cell of these rows narrows 'for every input' (looked for: loops, veiled, ifaces, maps, wideKeys, modest, calm, conditions, laid).
  DERIVED. THE GIVEN ROWS OF THIS SEAT. 12 by the template 'for every input the law returns true; each argument reads behind the call as it read before'; 0 by the template 'total and deterministic' (their statements: YthkioaimcohecaaTotals.lean).
  GIVEN WITH THE SEED: the statements are not yours to turn. If you find one false, say at which input.
  Laid BY PROGRAM, IN A SANDBOX (cutbox-rows.mjs): the forced cells as the released guide's own fill.sh prints them over the translation 3f186ed17dee6ae7… (all of the seat's roots in one cut). By AI agents, Wed Nov 11 2026. No macro, syntax, notation, axiom, sorry.
-/
import Derived.Test.YthkioaimcohecaaChecked
import GoSem.Claim
import GoSem.ClaimJoined
import GoSem.ClaimMapViews
import Derived.JoinedTies
import Derived.KernelRfl
namespace Go.Proofs.Ythkioaimcohecaa
/- THE CELL 'sum', in the pinned program and in every row, IS THE sha256 OF THE DUMP (.gsa) THAT YthkioaimcohecaaProg.lean LOADS. Nothing in Lean hashes anything: it is a label: what it is worth is what the hold of that sum in a sandbox is worth. -/
noncomputable def Try.pinned : Pinned := { name := "ythkioaimcohecaa", sum := "3f186ed17dee6ae7f9af529d577de90410ae5e954c0534fd8b6936526422383a", checked := Try.checked }
namespace Rows
def none {H : Type} : Left H := { results := [], args := [] }

/-- 'laws.FnExactKindName': WHATEVER THE INPUT: true; the input reads as it did. -/
def fnExactKindNameSpec : ChangeSpec := { name := "fnExactKindName", fn := fun _ => fun
  | [d] => { results := [.lit (.bool true)], args := [d] }
  | _ => none }
def fnExactKindNameRow : OpenClaim := { program := "ythkioaimcohecaa", sum := "3f186ed17dee6ae7f9af529d577de90410ae5e954c0534fd8b6936526422383a", func := "loop.example/g00074/laws.FnExactKindName", spec := "fnExactKindName", apart := false }
def FnExactKindNameSaid : Prop := fnExactKindNameRow.holds Try.pinned (OpenSpec.ofChange fnExactKindNameSpec)

/-- ITS FALSE NEIGHBOUR: 'it returns false'. Refute it at one input. -/
def fnExactKindNameWrong : ChangeSpec := { name := "fnExactKindName", fn := fun _ => fun
  | [d] => { results := [.lit (.bool false)], args := [d] }
  | _ => none }
def FnExactKindNameWrongFalsely : Prop := fnExactKindNameRow.holds Try.pinned (OpenSpec.ofChange fnExactKindNameWrong)

/-- 'laws.FnExactMoveOk': WHATEVER THE INPUT: true; the input reads as it did. -/
def fnExactMoveOkSpec : ChangeSpec := { name := "fnExactMoveOk", fn := fun _ => fun
  | [d1, d2] => { results := [.lit (.bool true)], args := [d1, d2] }
  | _ => none }
def fnExactMoveOkRow : OpenClaim := { program := "ythkioaimcohecaa", sum := "3f186ed17dee6ae7f9af529d577de90410ae5e954c0534fd8b6936526422383a", func := "loop.example/g00074/laws.FnExactMoveOk", spec := "fnExactMoveOk", apart := false }
def FnExactMoveOkSaid : Prop := fnExactMoveOkRow.holds Try.pinned (OpenSpec.ofChange fnExactMoveOkSpec)

/-- ITS FALSE NEIGHBOUR: 'it returns false'. Refute it at one input. -/
def fnExactMoveOkWrong : ChangeSpec := { name := "fnExactMoveOk", fn := fun _ => fun
  | [d1, d2] => { results := [.lit (.bool false)], args := [d1, d2] }
  | _ => none }
def FnExactMoveOkWrongFalsely : Prop := fnExactMoveOkRow.holds Try.pinned (OpenSpec.ofChange fnExactMoveOkWrong)

/-- 'laws.FnExactActOk': WHATEVER THE INPUT: true; the input reads as it did. -/
def fnExactActOkSpec : ChangeSpec := { name := "fnExactActOk", fn := fun _ => fun
  | [d1, d2] => { results := [.lit (.bool true)], args := [d1, d2] }
  | _ => none }
def fnExactActOkRow : OpenClaim := { program := "ythkioaimcohecaa", sum := "3f186ed17dee6ae7f9af529d577de90410ae5e954c0534fd8b6936526422383a", func := "loop.example/g00074/laws.FnExactActOk", spec := "fnExactActOk", apart := false }
def FnExactActOkSaid : Prop := fnExactActOkRow.holds Try.pinned (OpenSpec.ofChange fnExactActOkSpec)

/-- ITS FALSE NEIGHBOUR: 'it returns false'. Refute it at one input. -/
def fnExactActOkWrong : ChangeSpec := { name := "fnExactActOk", fn := fun _ => fun
  | [d1, d2] => { results := [.lit (.bool false)], args := [d1, d2] }
  | _ => none }
def FnExactActOkWrongFalsely : Prop := fnExactActOkRow.holds Try.pinned (OpenSpec.ofChange fnExactActOkWrong)

/-- 'laws.FnExactPrefixOf': WHATEVER THE INPUT: true; the input reads as it did. -/
def fnExactPrefixOfSpec : ChangeSpec := { name := "fnExactPrefixOf", fn := fun _ => fun
  | [d1, d2] => { results := [.lit (.bool true)], args := [d1, d2] }
  | _ => none }
def fnExactPrefixOfRow : OpenClaim := { program := "ythkioaimcohecaa", sum := "3f186ed17dee6ae7f9af529d577de90410ae5e954c0534fd8b6936526422383a", func := "loop.example/g00074/laws.FnExactPrefixOf", spec := "fnExactPrefixOf", apart := false }
def FnExactPrefixOfSaid : Prop := fnExactPrefixOfRow.holds Try.pinned (OpenSpec.ofChange fnExactPrefixOfSpec)

/-- ITS FALSE NEIGHBOUR: 'it returns false'. Refute it at one input. -/
def fnExactPrefixOfWrong : ChangeSpec := { name := "fnExactPrefixOf", fn := fun _ => fun
  | [d1, d2] => { results := [.lit (.bool false)], args := [d1, d2] }
  | _ => none }
def FnExactPrefixOfWrongFalsely : Prop := fnExactPrefixOfRow.holds Try.pinned (OpenSpec.ofChange fnExactPrefixOfWrong)

/-- 'laws.FnExactCursorsOk': WHATEVER THE INPUT: true; the input reads as it did. -/
def fnExactCursorsOkSpec : ChangeSpec := { name := "fnExactCursorsOk", fn := fun _ => fun
  | [d1, d2] => { results := [.lit (.bool true)], args := [d1, d2] }
  | _ => none }
def fnExactCursorsOkRow : OpenClaim := { program := "ythkioaimcohecaa", sum := "3f186ed17dee6ae7f9af529d577de90410ae5e954c0534fd8b6936526422383a", func := "loop.example/g00074/laws.FnExactCursorsOk", spec := "fnExactCursorsOk", apart := false }
def FnExactCursorsOkSaid : Prop := fnExactCursorsOkRow.holds Try.pinned (OpenSpec.ofChange fnExactCursorsOkSpec)

/-- ITS FALSE NEIGHBOUR: 'it returns false'. Refute it at one input. -/
def fnExactCursorsOkWrong : ChangeSpec := { name := "fnExactCursorsOk", fn := fun _ => fun
  | [d1, d2] => { results := [.lit (.bool false)], args := [d1, d2] }
  | _ => none }
def FnExactCursorsOkWrongFalsely : Prop := fnExactCursorsOkRow.holds Try.pinned (OpenSpec.ofChange fnExactCursorsOkWrong)

/-- 'laws.FnExactReadReceipt': WHATEVER THE INPUT: true; the input reads as it did. -/
def fnExactReadReceiptSpec : ChangeSpec := { name := "fnExactReadReceipt", fn := fun _ => fun
  | [d] => { results := [.lit (.bool true)], args := [d] }
  | _ => none }
def fnExactReadReceiptRow : OpenClaim := { program := "ythkioaimcohecaa", sum := "3f186ed17dee6ae7f9af529d577de90410ae5e954c0534fd8b6936526422383a", func := "loop.example/g00074/laws.FnExactReadReceipt", spec := "fnExactReadReceipt", apart := false }
def FnExactReadReceiptSaid : Prop := fnExactReadReceiptRow.holds Try.pinned (OpenSpec.ofChange fnExactReadReceiptSpec)

/-- ITS FALSE NEIGHBOUR: 'it returns false'. Refute it at one input. -/
def fnExactReadReceiptWrong : ChangeSpec := { name := "fnExactReadReceipt", fn := fun _ => fun
  | [d] => { results := [.lit (.bool false)], args := [d] }
  | _ => none }
def FnExactReadReceiptWrongFalsely : Prop := fnExactReadReceiptRow.holds Try.pinned (OpenSpec.ofChange fnExactReadReceiptWrong)

/-- 'laws.FnExactGapless': WHATEVER THE INPUT: true; the input reads as it did. -/
def fnExactGaplessSpec : ChangeSpec := { name := "fnExactGapless", fn := fun _ => fun
  | [d1, d2, d3] => { results := [.lit (.bool true)], args := [d1, d2, d3] }
  | _ => none }
def fnExactGaplessRow : OpenClaim := { program := "ythkioaimcohecaa", sum := "3f186ed17dee6ae7f9af529d577de90410ae5e954c0534fd8b6936526422383a", func := "loop.example/g00074/laws.FnExactGapless", spec := "fnExactGapless", apart := false }
def FnExactGaplessSaid : Prop := fnExactGaplessRow.holds Try.pinned (OpenSpec.ofChange fnExactGaplessSpec)

/-- ITS FALSE NEIGHBOUR: 'it returns false'. Refute it at one input. -/
def fnExactGaplessWrong : ChangeSpec := { name := "fnExactGapless", fn := fun _ => fun
  | [d1, d2, d3] => { results := [.lit (.bool false)], args := [d1, d2, d3] }
  | _ => none }
def FnExactGaplessWrongFalsely : Prop := fnExactGaplessRow.holds Try.pinned (OpenSpec.ofChange fnExactGaplessWrong)

/-- 'laws.FnExactReadLeaf': WHATEVER THE INPUT: true; the input reads as it did. -/
def fnExactReadLeafSpec : ChangeSpec := { name := "fnExactReadLeaf", fn := fun _ => fun
  | [d] => { results := [.lit (.bool true)], args := [d] }
  | _ => none }
def fnExactReadLeafRow : OpenClaim := { program := "ythkioaimcohecaa", sum := "3f186ed17dee6ae7f9af529d577de90410ae5e954c0534fd8b6936526422383a", func := "loop.example/g00074/laws.FnExactReadLeaf", spec := "fnExactReadLeaf", apart := false }
def FnExactReadLeafSaid : Prop := fnExactReadLeafRow.holds Try.pinned (OpenSpec.ofChange fnExactReadLeafSpec)

/-- ITS FALSE NEIGHBOUR: 'it returns false'. Refute it at one input. -/
def fnExactReadLeafWrong : ChangeSpec := { name := "fnExactReadLeaf", fn := fun _ => fun
  | [d] => { results := [.lit (.bool false)], args := [d] }
  | _ => none }
def FnExactReadLeafWrongFalsely : Prop := fnExactReadLeafRow.holds Try.pinned (OpenSpec.ofChange fnExactReadLeafWrong)

/-- 'laws.FnExactSelfClash': WHATEVER THE INPUT: true; the input reads as it did. -/
def fnExactSelfClashSpec : ChangeSpec := { name := "fnExactSelfClash", fn := fun _ => fun
  | [d1, d2] => { results := [.lit (.bool true)], args := [d1, d2] }
  | _ => none }
def fnExactSelfClashRow : OpenClaim := { program := "ythkioaimcohecaa", sum := "3f186ed17dee6ae7f9af529d577de90410ae5e954c0534fd8b6936526422383a", func := "loop.example/g00074/laws.FnExactSelfClash", spec := "fnExactSelfClash", apart := false }
def FnExactSelfClashSaid : Prop := fnExactSelfClashRow.holds Try.pinned (OpenSpec.ofChange fnExactSelfClashSpec)

/-- ITS FALSE NEIGHBOUR: 'it returns false'. Refute it at one input. -/
def fnExactSelfClashWrong : ChangeSpec := { name := "fnExactSelfClash", fn := fun _ => fun
  | [d1, d2] => { results := [.lit (.bool false)], args := [d1, d2] }
  | _ => none }
def FnExactSelfClashWrongFalsely : Prop := fnExactSelfClashRow.holds Try.pinned (OpenSpec.ofChange fnExactSelfClashWrong)

/-- 'laws.FnLeafBack': WHATEVER THE INPUT: true; the input reads as it did. -/
def fnLeafBackSpec : ChangeSpec := { name := "fnLeafBack", fn := fun _ => fun
  | [d] => { results := [.lit (.bool true)], args := [d] }
  | _ => none }
def fnLeafBackRow : OpenClaim := { program := "ythkioaimcohecaa", sum := "3f186ed17dee6ae7f9af529d577de90410ae5e954c0534fd8b6936526422383a", func := "loop.example/g00074/laws.FnLeafBack", spec := "fnLeafBack", apart := false }
def FnLeafBackSaid : Prop := fnLeafBackRow.holds Try.pinned (OpenSpec.ofChange fnLeafBackSpec)

/-- ITS FALSE NEIGHBOUR: 'it returns false'. Refute it at one input. -/
def fnLeafBackWrong : ChangeSpec := { name := "fnLeafBack", fn := fun _ => fun
  | [d] => { results := [.lit (.bool false)], args := [d] }
  | _ => none }
def FnLeafBackWrongFalsely : Prop := fnLeafBackRow.holds Try.pinned (OpenSpec.ofChange fnLeafBackWrong)

/-- 'laws.FnExactCursorOf': WHATEVER THE INPUT: true; the input reads as it did. -/
def fnExactCursorOfSpec : ChangeSpec := { name := "fnExactCursorOf", fn := fun _ => fun
  | [d1, d2] => { results := [.lit (.bool true)], args := [d1, d2] }
  | _ => none }
def fnExactCursorOfRow : OpenClaim := { program := "ythkioaimcohecaa", sum := "3f186ed17dee6ae7f9af529d577de90410ae5e954c0534fd8b6936526422383a", func := "loop.example/g00074/laws.FnExactCursorOf", spec := "fnExactCursorOf", apart := false }
def FnExactCursorOfSaid : Prop := fnExactCursorOfRow.holds Try.pinned (OpenSpec.ofChange fnExactCursorOfSpec)

/-- ITS FALSE NEIGHBOUR: 'it returns false'. Refute it at one input. -/
def fnExactCursorOfWrong : ChangeSpec := { name := "fnExactCursorOf", fn := fun _ => fun
  | [d1, d2] => { results := [.lit (.bool false)], args := [d1, d2] }
  | _ => none }
def FnExactCursorOfWrongFalsely : Prop := fnExactCursorOfRow.holds Try.pinned (OpenSpec.ofChange fnExactCursorOfWrong)

/-- 'laws.FnExactGivenTo': WHATEVER THE INPUT: true; the input reads as it did. -/
def fnExactGivenToSpec : ChangeSpec := { name := "fnExactGivenTo", fn := fun _ => fun
  | [d1, d2, d3] => { results := [.lit (.bool true)], args := [d1, d2, d3] }
  | _ => none }
def fnExactGivenToRow : OpenClaim := { program := "ythkioaimcohecaa", sum := "3f186ed17dee6ae7f9af529d577de90410ae5e954c0534fd8b6936526422383a", func := "loop.example/g00074/laws.FnExactGivenTo", spec := "fnExactGivenTo", apart := false }
def FnExactGivenToSaid : Prop := fnExactGivenToRow.holds Try.pinned (OpenSpec.ofChange fnExactGivenToSpec)

/-- ITS FALSE NEIGHBOUR: 'it returns false'. Refute it at one input. -/
def fnExactGivenToWrong : ChangeSpec := { name := "fnExactGivenTo", fn := fun _ => fun
  | [d1, d2, d3] => { results := [.lit (.bool false)], args := [d1, d2, d3] }
  | _ => none }
def FnExactGivenToWrongFalsely : Prop := fnExactGivenToRow.holds Try.pinned (OpenSpec.ofChange fnExactGivenToWrong)

/- THE SECOND FORM. 'bulk': how many values and letters a reading holds, each counted each time it is reached (what is shared counts as often as it is met; a slice's spare places count too). A statement '..UptoSaid' is the law's where the arguments, and the package variables that the reading takes, are together of bulk at most 1048576: NARROWER than '..Said'. Prove '..Said' where nothing that the law and all that it calls make is longer than what came in: it says more and counts as full. Else prove '..UptoSaid'. A law counts once. -/
mutual
def uptoBulk {H : Type} : DataW H → Nat
  | .lit (.string bytes) => bytes.length + 1
  | .lit _ => 1
  | .nil => 1
  | .ptr d => uptoBulk d + 1
  | .slice elems spare => uptoBulkAll elems + uptoBulkAll spare + 1
  | .agg parts => uptoBulkAll parts + 1
  | .iface _ d => uptoBulk d + 1
  | .map entries => uptoBulkEntries entries + 1
  | .held _ => 1
def uptoBulkAll {H : Type} : List (DataW H) → Nat
  | [] => 0
  | d :: r => uptoBulk d + uptoBulkAll r
def uptoBulkEntries {H : Type} : List (Lit × DataW H) → Nat
  | [] => 0
  | x :: r => uptoBulkEntry x + uptoBulkEntries r
def uptoBulkEntry {H : Type} : Lit × DataW H → Nat
  | (.string bytes, d) => bytes.length + uptoBulk d + 1
  | (_, d) => uptoBulk d + 1
 end
def uptoSmall : (H : Type) → List (DataW H) → Bool := fun _ ds => decide (uptoBulkAll ds ≤ 1048576)
def OpenSpec.upto (s : _root_.Go.ChangeSpec) : _root_.Go.OpenSpec := { _root_.Go.OpenSpec.ofChange s with cond := some uptoSmall }

/-- 'laws.FnExactKindName', WHERE WHAT IT READS IS OF BULK AT MOST 1048576: true; the input reads as it did. -/
def fnExactKindNameUptoRow : OpenClaim := { program := "ythkioaimcohecaa", sum := "3f186ed17dee6ae7f9af529d577de90410ae5e954c0534fd8b6936526422383a", func := "loop.example/g00074/laws.FnExactKindName", spec := "fnExactKindName", apart := false, narrowed := true }
def FnExactKindNameUptoSaid : Prop := fnExactKindNameUptoRow.holds Try.pinned (OpenSpec.upto fnExactKindNameSpec)

/-- 'laws.FnExactMoveOk', WHERE WHAT IT READS IS OF BULK AT MOST 1048576: true; the input reads as it did. -/
def fnExactMoveOkUptoRow : OpenClaim := { program := "ythkioaimcohecaa", sum := "3f186ed17dee6ae7f9af529d577de90410ae5e954c0534fd8b6936526422383a", func := "loop.example/g00074/laws.FnExactMoveOk", spec := "fnExactMoveOk", apart := false, narrowed := true }
def FnExactMoveOkUptoSaid : Prop := fnExactMoveOkUptoRow.holds Try.pinned (OpenSpec.upto fnExactMoveOkSpec)

/-- 'laws.FnExactActOk', WHERE WHAT IT READS IS OF BULK AT MOST 1048576: true; the input reads as it did. -/
def fnExactActOkUptoRow : OpenClaim := { program := "ythkioaimcohecaa", sum := "3f186ed17dee6ae7f9af529d577de90410ae5e954c0534fd8b6936526422383a", func := "loop.example/g00074/laws.FnExactActOk", spec := "fnExactActOk", apart := false, narrowed := true }
def FnExactActOkUptoSaid : Prop := fnExactActOkUptoRow.holds Try.pinned (OpenSpec.upto fnExactActOkSpec)

/-- 'laws.FnExactPrefixOf', WHERE WHAT IT READS IS OF BULK AT MOST 1048576: true; the input reads as it did. -/
def fnExactPrefixOfUptoRow : OpenClaim := { program := "ythkioaimcohecaa", sum := "3f186ed17dee6ae7f9af529d577de90410ae5e954c0534fd8b6936526422383a", func := "loop.example/g00074/laws.FnExactPrefixOf", spec := "fnExactPrefixOf", apart := false, narrowed := true }
def FnExactPrefixOfUptoSaid : Prop := fnExactPrefixOfUptoRow.holds Try.pinned (OpenSpec.upto fnExactPrefixOfSpec)

/-- 'laws.FnExactCursorsOk', WHERE WHAT IT READS IS OF BULK AT MOST 1048576: true; the input reads as it did. -/
def fnExactCursorsOkUptoRow : OpenClaim := { program := "ythkioaimcohecaa", sum := "3f186ed17dee6ae7f9af529d577de90410ae5e954c0534fd8b6936526422383a", func := "loop.example/g00074/laws.FnExactCursorsOk", spec := "fnExactCursorsOk", apart := false, narrowed := true }
def FnExactCursorsOkUptoSaid : Prop := fnExactCursorsOkUptoRow.holds Try.pinned (OpenSpec.upto fnExactCursorsOkSpec)

/-- 'laws.FnExactReadReceipt', WHERE WHAT IT READS IS OF BULK AT MOST 1048576: true; the input reads as it did. -/
def fnExactReadReceiptUptoRow : OpenClaim := { program := "ythkioaimcohecaa", sum := "3f186ed17dee6ae7f9af529d577de90410ae5e954c0534fd8b6936526422383a", func := "loop.example/g00074/laws.FnExactReadReceipt", spec := "fnExactReadReceipt", apart := false, narrowed := true }
def FnExactReadReceiptUptoSaid : Prop := fnExactReadReceiptUptoRow.holds Try.pinned (OpenSpec.upto fnExactReadReceiptSpec)

/-- 'laws.FnExactGapless', WHERE WHAT IT READS IS OF BULK AT MOST 1048576: true; the input reads as it did. -/
def fnExactGaplessUptoRow : OpenClaim := { program := "ythkioaimcohecaa", sum := "3f186ed17dee6ae7f9af529d577de90410ae5e954c0534fd8b6936526422383a", func := "loop.example/g00074/laws.FnExactGapless", spec := "fnExactGapless", apart := false, narrowed := true }
def FnExactGaplessUptoSaid : Prop := fnExactGaplessUptoRow.holds Try.pinned (OpenSpec.upto fnExactGaplessSpec)

/-- 'laws.FnExactReadLeaf', WHERE WHAT IT READS IS OF BULK AT MOST 1048576: true; the input reads as it did. -/
def fnExactReadLeafUptoRow : OpenClaim := { program := "ythkioaimcohecaa", sum := "3f186ed17dee6ae7f9af529d577de90410ae5e954c0534fd8b6936526422383a", func := "loop.example/g00074/laws.FnExactReadLeaf", spec := "fnExactReadLeaf", apart := false, narrowed := true }
def FnExactReadLeafUptoSaid : Prop := fnExactReadLeafUptoRow.holds Try.pinned (OpenSpec.upto fnExactReadLeafSpec)

/-- 'laws.FnExactSelfClash', WHERE WHAT IT READS IS OF BULK AT MOST 1048576: true; the input reads as it did. -/
def fnExactSelfClashUptoRow : OpenClaim := { program := "ythkioaimcohecaa", sum := "3f186ed17dee6ae7f9af529d577de90410ae5e954c0534fd8b6936526422383a", func := "loop.example/g00074/laws.FnExactSelfClash", spec := "fnExactSelfClash", apart := false, narrowed := true }
def FnExactSelfClashUptoSaid : Prop := fnExactSelfClashUptoRow.holds Try.pinned (OpenSpec.upto fnExactSelfClashSpec)

/-- 'laws.FnLeafBack', WHERE WHAT IT READS IS OF BULK AT MOST 1048576: true; the input reads as it did. -/
def fnLeafBackUptoRow : OpenClaim := { program := "ythkioaimcohecaa", sum := "3f186ed17dee6ae7f9af529d577de90410ae5e954c0534fd8b6936526422383a", func := "loop.example/g00074/laws.FnLeafBack", spec := "fnLeafBack", apart := false, narrowed := true }
def FnLeafBackUptoSaid : Prop := fnLeafBackUptoRow.holds Try.pinned (OpenSpec.upto fnLeafBackSpec)

/-- 'laws.FnExactCursorOf', WHERE WHAT IT READS IS OF BULK AT MOST 1048576: true; the input reads as it did. -/
def fnExactCursorOfUptoRow : OpenClaim := { program := "ythkioaimcohecaa", sum := "3f186ed17dee6ae7f9af529d577de90410ae5e954c0534fd8b6936526422383a", func := "loop.example/g00074/laws.FnExactCursorOf", spec := "fnExactCursorOf", apart := false, narrowed := true }
def FnExactCursorOfUptoSaid : Prop := fnExactCursorOfUptoRow.holds Try.pinned (OpenSpec.upto fnExactCursorOfSpec)

/-- 'laws.FnExactGivenTo', WHERE WHAT IT READS IS OF BULK AT MOST 1048576: true; the input reads as it did. -/
def fnExactGivenToUptoRow : OpenClaim := { program := "ythkioaimcohecaa", sum := "3f186ed17dee6ae7f9af529d577de90410ae5e954c0534fd8b6936526422383a", func := "loop.example/g00074/laws.FnExactGivenTo", spec := "fnExactGivenTo", apart := false, narrowed := true }
def FnExactGivenToUptoSaid : Prop := fnExactGivenToUptoRow.holds Try.pinned (OpenSpec.upto fnExactGivenToSpec)

end Rows
end Go.Proofs.Ythkioaimcohecaa

/-
  No cell of these rows narrows 'for every input' (looked for: loops, veiled, ifaces, maps, wideKeys, modest, calm, conditions, laid).
  DERIVED. THE GIVEN ROWS OF THIS SEAT. 3 by the template 'for every input the law returns true; each argument reads behind the call as it read before'; 0 by the template 'total and deterministic' (their statements: YthnpdoadmglipaaGreatTotals.lean).
  GIVEN WITH THE SEED: the statements are not yours to turn. If you find one false, say at which input.
  Laid BY PROGRAM, IN A SANDBOX (cutbox-rows.mjs): the forced cells as the released guide's own fill.sh prints them over the translation e490df59da06690a… (all of the seat's roots in one cut). By AI agents, Wed Nov 11 2026. No macro, syntax, notation, axiom, sorry.
-/
import Derived.Test.YthnpdoadmglipaaGreatChecked
import GoSem.Claim
import GoSem.ClaimJoined
import GoSem.ClaimMapViews
import Derived.JoinedTies
import Derived.KernelRfl
namespace Go.Proofs.YthnpdoadmglipaaGreat
/- THE CELL 'sum', in the pinned program and in every row, IS THE sha256 OF THE DUMP (.gsa) THAT YthnpdoadmglipaaGreatProg.lean LOADS. Nothing in Lean hashes anything: it is a label: what it is worth is what the hold of that sum in a sandbox is worth. -/
noncomputable def Tryz.pinned : Pinned := { name := "ythnpdoadmglipaagreat", sum := "e490df59da06690abff24e67ac7db6e9145592be8d4e462f4a45b0da6a71e41e", checked := Tryz.checked }
namespace Rows
def none {H : Type} : Left H := { results := [], args := [] }

/-- 'laws.FnHeadsBack': WHATEVER THE INPUT: true; the input reads as it did. -/
def fnHeadsBackSpec : ChangeSpec := { name := "fnHeadsBack", fn := fun _ => fun
  | [d] => { results := [.lit (.bool true)], args := [d] }
  | _ => none }
def fnHeadsBackRow : OpenClaim := { program := "ythnpdoadmglipaagreat", sum := "e490df59da06690abff24e67ac7db6e9145592be8d4e462f4a45b0da6a71e41e", func := "loop.example/g00074/laws.FnHeadsBack", spec := "fnHeadsBack", inPlace := ["internal/abi.NoEscape", "internal/bytealg.MakeNoZero"], plainKeys := false, apart := false }
def FnHeadsBackSaid : Prop := fnHeadsBackRow.holds Tryz.pinned (OpenSpec.ofChange fnHeadsBackSpec)

/-- ITS FALSE NEIGHBOUR: 'it returns false'. Refute it at one input. -/
def fnHeadsBackWrong : ChangeSpec := { name := "fnHeadsBack", fn := fun _ => fun
  | [d] => { results := [.lit (.bool false)], args := [d] }
  | _ => none }
def FnHeadsBackWrongFalsely : Prop := fnHeadsBackRow.holds Tryz.pinned (OpenSpec.ofChange fnHeadsBackWrong)

/-- 'laws.FnReopens': WHATEVER THE INPUT: true; the input reads as it did. -/
def fnReopensSpec : ChangeSpec := { name := "fnReopens", fn := fun _ => fun
  | [d] => { results := [.lit (.bool true)], args := [d] }
  | _ => none }
def fnReopensRow : OpenClaim := { program := "ythnpdoadmglipaagreat", sum := "e490df59da06690abff24e67ac7db6e9145592be8d4e462f4a45b0da6a71e41e", func := "loop.example/g00074/laws.FnReopens", spec := "fnReopens", inPlace := ["internal/abi.NoEscape", "internal/bytealg.MakeNoZero"], unfollowed := true, recurses := true, plainKeys := false, apart := false }
def FnReopensSaid : Prop := fnReopensRow.holds Tryz.pinned (OpenSpec.ofChange fnReopensSpec)

/-- ITS FALSE NEIGHBOUR: 'it returns false'. Refute it at one input. -/
def fnReopensWrong : ChangeSpec := { name := "fnReopens", fn := fun _ => fun
  | [d] => { results := [.lit (.bool false)], args := [d] }
  | _ => none }
def FnReopensWrongFalsely : Prop := fnReopensRow.holds Tryz.pinned (OpenSpec.ofChange fnReopensWrong)

/-- 'laws.FnCutKeeps': WHATEVER THE INPUT: true; the input reads as it did. -/
def fnCutKeepsSpec : ChangeSpec := { name := "fnCutKeeps", fn := fun _ => fun
  | [d] => { results := [.lit (.bool true)], args := [d] }
  | _ => none }
def fnCutKeepsRow : OpenClaim := { program := "ythnpdoadmglipaagreat", sum := "e490df59da06690abff24e67ac7db6e9145592be8d4e462f4a45b0da6a71e41e", func := "loop.example/g00074/laws.FnCutKeeps", spec := "fnCutKeeps", inPlace := ["internal/abi.NoEscape", "internal/bytealg.MakeNoZero"], unfollowed := true, recurses := true, plainKeys := false, apart := false }
def FnCutKeepsSaid : Prop := fnCutKeepsRow.holds Tryz.pinned (OpenSpec.ofChange fnCutKeepsSpec)

/-- ITS FALSE NEIGHBOUR: 'it returns false'. Refute it at one input. -/
def fnCutKeepsWrong : ChangeSpec := { name := "fnCutKeeps", fn := fun _ => fun
  | [d] => { results := [.lit (.bool false)], args := [d] }
  | _ => none }
def FnCutKeepsWrongFalsely : Prop := fnCutKeepsRow.holds Tryz.pinned (OpenSpec.ofChange fnCutKeepsWrong)

/- THE SECOND FORM. 'bulk': how many values and letters a reading holds, each counted each time it is reached (what is shared counts as often as it is met; a slice's spare places count too). A statement '..UptoSaid' is the law's where the arguments, and the package variables that the reading takes, are together of bulk at most 1048576: NARROWER than '..Said'. Prove '..Said' where nothing that the law and all that it calls make is longer than what came in: it says more and counts as full. Else prove '..UptoSaid'. A law counts once. -/
mutual
def uptoBulk {H : Type} : DataW H → Nat
  | .lit (.string bytes) => bytes.length + 1
  | .lit _ => 1
  | .nil => 1
  | .ptr d => uptoBulk d + 1
  | .slice elems spare => uptoBulkAll elems + uptoBulkAll spare + 1
  | .agg parts => uptoBulkAll parts + 1
  | .iface _ d => uptoBulk d + 1
  | .map entries => uptoBulkEntries entries + 1
  | .held _ => 1
def uptoBulkAll {H : Type} : List (DataW H) → Nat
  | [] => 0
  | d :: r => uptoBulk d + uptoBulkAll r
def uptoBulkEntries {H : Type} : List (Lit × DataW H) → Nat
  | [] => 0
  | x :: r => uptoBulkEntry x + uptoBulkEntries r
def uptoBulkEntry {H : Type} : Lit × DataW H → Nat
  | (.string bytes, d) => bytes.length + uptoBulk d + 1
  | (_, d) => uptoBulk d + 1
 end
def uptoSmall : (H : Type) → List (DataW H) → Bool := fun _ ds => decide (uptoBulkAll ds ≤ 1048576)
def OpenSpec.upto (s : _root_.Go.ChangeSpec) : _root_.Go.OpenSpec := { _root_.Go.OpenSpec.ofChange s with cond := some uptoSmall }

/-- 'laws.FnHeadsBack', WHERE WHAT IT READS IS OF BULK AT MOST 1048576: true; the input reads as it did. -/
def fnHeadsBackUptoRow : OpenClaim := { program := "ythnpdoadmglipaagreat", sum := "e490df59da06690abff24e67ac7db6e9145592be8d4e462f4a45b0da6a71e41e", func := "loop.example/g00074/laws.FnHeadsBack", spec := "fnHeadsBack", inPlace := ["internal/abi.NoEscape", "internal/bytealg.MakeNoZero"], plainKeys := false, apart := false, narrowed := true }
def FnHeadsBackUptoSaid : Prop := fnHeadsBackUptoRow.holds Tryz.pinned (OpenSpec.upto fnHeadsBackSpec)

/-- 'laws.FnReopens', WHERE WHAT IT READS IS OF BULK AT MOST 1048576: true; the input reads as it did. -/
def fnReopensUptoRow : OpenClaim := { program := "ythnpdoadmglipaagreat", sum := "e490df59da06690abff24e67ac7db6e9145592be8d4e462f4a45b0da6a71e41e", func := "loop.example/g00074/laws.FnReopens", spec := "fnReopens", inPlace := ["internal/abi.NoEscape", "internal/bytealg.MakeNoZero"], unfollowed := true, recurses := true, plainKeys := false, apart := false, narrowed := true }
def FnReopensUptoSaid : Prop := fnReopensUptoRow.holds Tryz.pinned (OpenSpec.upto fnReopensSpec)

/-- 'laws.FnCutKeeps', WHERE WHAT IT READS IS OF BULK AT MOST 1048576: true; the input reads as it did. -/
def fnCutKeepsUptoRow : OpenClaim := { program := "ythnpdoadmglipaagreat", sum := "e490df59da06690abff24e67ac7db6e9145592be8d4e462f4a45b0da6a71e41e", func := "loop.example/g00074/laws.FnCutKeeps", spec := "fnCutKeeps", inPlace := ["internal/abi.NoEscape", "internal/bytealg.MakeNoZero"], unfollowed := true, recurses := true, plainKeys := false, apart := false, narrowed := true }
def FnCutKeepsUptoSaid : Prop := fnCutKeepsUptoRow.holds Tryz.pinned (OpenSpec.upto fnCutKeepsSpec)

end Rows
end Go.Proofs.YthnpdoadmglipaaGreat

/-
  No cell of these rows narrows 'for every input' (looked for: loops, veiled, ifaces, maps, wideKeys, modest, calm, conditions, laid).
  DERIVED. THE GIVEN ROWS OF THIS SEAT. 3 by the template 'for every input the law returns true; each argument reads behind the call as it read before'; 0 by the template 'total and deterministic' (their statements: YtichegndafnjeaaGreatTotals.lean).
  GIVEN WITH THE SEED: the statements are not yours to turn. If you find one false, say at which input.
  Laid BY PROGRAM, IN A SANDBOX (cutbox-rows.mjs): the forced cells as the released guide's own fill.sh prints them over the translation 87fdb32cb555c357… (all of the seat's roots in one cut). By AI agents, Wed Nov 11 2026. No macro, syntax, notation, axiom, sorry.
-/
import Derived.Test.YtichegndafnjeaaGreatChecked
import GoSem.Claim
import GoSem.ClaimJoined
import GoSem.ClaimMapViews
import Derived.JoinedTies
import Derived.KernelRfl
namespace Go.Proofs.YtichegndafnjeaaGreat
/- THE CELL 'sum', in the pinned program and in every row, IS THE sha256 OF THE DUMP (.gsa) THAT YtichegndafnjeaaGreatProg.lean LOADS. Nothing in Lean hashes anything: it is a label: what it is worth is what the hold of that sum in a sandbox is worth. -/
noncomputable def Tryz.pinned : Pinned := { name := "ytichegndafnjeaagreat", sum := "87fdb32cb555c3571b1338a31ad0270910fae7fbed5dd811892fda246f776a41", checked := Tryz.checked }
namespace Rows
def none {H : Type} : Left H := { results := [], args := [] }

/-- 'laws.FnExactExtract': WHATEVER THE INPUT: true; the input reads as it did. -/
def fnExactExtractSpec : ChangeSpec := { name := "fnExactExtract", fn := fun _ => fun
  | [d1, d2] => { results := [.lit (.bool true)], args := [d1, d2] }
  | _ => none }
def fnExactExtractRow : OpenClaim := { program := "ytichegndafnjeaagreat", sum := "87fdb32cb555c3571b1338a31ad0270910fae7fbed5dd811892fda246f776a41", func := "loop.example/g00074/laws.FnExactExtract", spec := "fnExactExtract", inPlace := ["internal/abi.NoEscape", "internal/bytealg.MakeNoZero"], recurses := true, apart := false }
def FnExactExtractSaid : Prop := fnExactExtractRow.holds Tryz.pinned (OpenSpec.ofChange fnExactExtractSpec)

/-- ITS FALSE NEIGHBOUR: 'it returns false'. Refute it at one input. -/
def fnExactExtractWrong : ChangeSpec := { name := "fnExactExtract", fn := fun _ => fun
  | [d1, d2] => { results := [.lit (.bool false)], args := [d1, d2] }
  | _ => none }
def FnExactExtractWrongFalsely : Prop := fnExactExtractRow.holds Tryz.pinned (OpenSpec.ofChange fnExactExtractWrong)

/-- 'laws.FnExactPresOf': WHATEVER THE INPUT: true; the input reads as it did. -/
def fnExactPresOfSpec : ChangeSpec := { name := "fnExactPresOf", fn := fun _ => fun
  | [d1, d2] => { results := [.lit (.bool true)], args := [d1, d2] }
  | _ => none }
def fnExactPresOfRow : OpenClaim := { program := "ytichegndafnjeaagreat", sum := "87fdb32cb555c3571b1338a31ad0270910fae7fbed5dd811892fda246f776a41", func := "loop.example/g00074/laws.FnExactPresOf", spec := "fnExactPresOf", inPlace := ["internal/abi.NoEscape", "internal/bytealg.MakeNoZero"], recurses := true, apart := false }
def FnExactPresOfSaid : Prop := fnExactPresOfRow.holds Tryz.pinned (OpenSpec.ofChange fnExactPresOfSpec)

/-- ITS FALSE NEIGHBOUR: 'it returns false'. Refute it at one input. -/
def fnExactPresOfWrong : ChangeSpec := { name := "fnExactPresOf", fn := fun _ => fun
  | [d1, d2] => { results := [.lit (.bool false)], args := [d1, d2] }
  | _ => none }
def FnExactPresOfWrongFalsely : Prop := fnExactPresOfRow.holds Tryz.pinned (OpenSpec.ofChange fnExactPresOfWrong)

/-- 'laws.FnExactWorldNew': WHATEVER THE INPUT: true; the input reads as it did. -/
def fnExactWorldNewSpec : ChangeSpec := { name := "fnExactWorldNew", fn := fun _ => fun
  | [d1, d2] => { results := [.lit (.bool true)], args := [d1, d2] }
  | _ => none }
def fnExactWorldNewRow : OpenClaim := { program := "ytichegndafnjeaagreat", sum := "87fdb32cb555c3571b1338a31ad0270910fae7fbed5dd811892fda246f776a41", func := "loop.example/g00074/laws.FnExactWorldNew", spec := "fnExactWorldNew", inPlace := ["internal/abi.NoEscape", "internal/bytealg.MakeNoZero"], apart := false }
def FnExactWorldNewSaid : Prop := fnExactWorldNewRow.holds Tryz.pinned (OpenSpec.ofChange fnExactWorldNewSpec)

/-- ITS FALSE NEIGHBOUR: 'it returns false'. Refute it at one input. -/
def fnExactWorldNewWrong : ChangeSpec := { name := "fnExactWorldNew", fn := fun _ => fun
  | [d1, d2] => { results := [.lit (.bool false)], args := [d1, d2] }
  | _ => none }
def FnExactWorldNewWrongFalsely : Prop := fnExactWorldNewRow.holds Tryz.pinned (OpenSpec.ofChange fnExactWorldNewWrong)

/- THE SECOND FORM. 'bulk': how many values and letters a reading holds, each counted each time it is reached (what is shared counts as often as it is met; a slice's spare places count too). A statement '..UptoSaid' is the law's where the arguments, and the package variables that the reading takes, are together of bulk at most 1048576: NARROWER than '..Said'. Prove '..Said' where nothing that the law and all that it calls make is longer than what came in: it says more and counts as full. Else prove '..UptoSaid'. A law counts once. -/
mutual
def uptoBulk {H : Type} : DataW H → Nat
  | .lit (.string bytes) => bytes.length + 1
  | .lit _ => 1
  | .nil => 1
  | .ptr d => uptoBulk d + 1
  | .slice elems spare => uptoBulkAll elems + uptoBulkAll spare + 1
  | .agg parts => uptoBulkAll parts + 1
  | .iface _ d => uptoBulk d + 1
  | .map entries => uptoBulkEntries entries + 1
  | .held _ => 1
def uptoBulkAll {H : Type} : List (DataW H) → Nat
  | [] => 0
  | d :: r => uptoBulk d + uptoBulkAll r
def uptoBulkEntries {H : Type} : List (Lit × DataW H) → Nat
  | [] => 0
  | x :: r => uptoBulkEntry x + uptoBulkEntries r
def uptoBulkEntry {H : Type} : Lit × DataW H → Nat
  | (.string bytes, d) => bytes.length + uptoBulk d + 1
  | (_, d) => uptoBulk d + 1
 end
def uptoSmall : (H : Type) → List (DataW H) → Bool := fun _ ds => decide (uptoBulkAll ds ≤ 1048576)
def OpenSpec.upto (s : _root_.Go.ChangeSpec) : _root_.Go.OpenSpec := { _root_.Go.OpenSpec.ofChange s with cond := some uptoSmall }

/-- 'laws.FnExactExtract', WHERE WHAT IT READS IS OF BULK AT MOST 1048576: true; the input reads as it did. -/
def fnExactExtractUptoRow : OpenClaim := { program := "ytichegndafnjeaagreat", sum := "87fdb32cb555c3571b1338a31ad0270910fae7fbed5dd811892fda246f776a41", func := "loop.example/g00074/laws.FnExactExtract", spec := "fnExactExtract", inPlace := ["internal/abi.NoEscape", "internal/bytealg.MakeNoZero"], recurses := true, apart := false, narrowed := true }
def FnExactExtractUptoSaid : Prop := fnExactExtractUptoRow.holds Tryz.pinned (OpenSpec.upto fnExactExtractSpec)

/-- 'laws.FnExactPresOf', WHERE WHAT IT READS IS OF BULK AT MOST 1048576: true; the input reads as it did. -/
def fnExactPresOfUptoRow : OpenClaim := { program := "ytichegndafnjeaagreat", sum := "87fdb32cb555c3571b1338a31ad0270910fae7fbed5dd811892fda246f776a41", func := "loop.example/g00074/laws.FnExactPresOf", spec := "fnExactPresOf", inPlace := ["internal/abi.NoEscape", "internal/bytealg.MakeNoZero"], recurses := true, apart := false, narrowed := true }
def FnExactPresOfUptoSaid : Prop := fnExactPresOfUptoRow.holds Tryz.pinned (OpenSpec.upto fnExactPresOfSpec)

/-- 'laws.FnExactWorldNew', WHERE WHAT IT READS IS OF BULK AT MOST 1048576: true; the input reads as it did. -/
def fnExactWorldNewUptoRow : OpenClaim := { program := "ytichegndafnjeaagreat", sum := "87fdb32cb555c3571b1338a31ad0270910fae7fbed5dd811892fda246f776a41", func := "loop.example/g00074/laws.FnExactWorldNew", spec := "fnExactWorldNew", inPlace := ["internal/abi.NoEscape", "internal/bytealg.MakeNoZero"], apart := false, narrowed := true }
def FnExactWorldNewUptoSaid : Prop := fnExactWorldNewUptoRow.holds Tryz.pinned (OpenSpec.upto fnExactWorldNewSpec)

end Rows
end Go.Proofs.YtichegndafnjeaaGreat

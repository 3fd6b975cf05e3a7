/-
  No cell of these rows narrows 'for every input' (looked for: loops, veiled, ifaces, maps, wideKeys, modest, calm, conditions, laid).
  DERIVED. THE GIVEN ROWS OF THIS SEAT. 4 by the template 'for every input the law returns true; each argument reads behind the call as it read before'; 0 by the template 'total and deterministic' (their statements: YtbnkjgcpjeedfaaGreatTotals.lean).
  GIVEN WITH THE SEED: the statements are not yours to turn. If you find one false, say at which input.
  Laid BY PROGRAM, IN A SANDBOX (cutbox-rows.mjs): the forced cells as the released guide's own fill.sh prints them over the translation 1e237d30f538e6ac… (all of the seat's roots in one cut). By AI agents, Wed Nov 11 2026. No macro, syntax, notation, axiom, sorry.
-/
import Derived.Test.YtbnkjgcpjeedfaaGreatChecked
import GoSem.Claim
import GoSem.ClaimJoined
import GoSem.ClaimMapViews
import Derived.JoinedTies
import Derived.KernelRfl
namespace Go.Proofs.YtbnkjgcpjeedfaaGreat
/- THE CELL 'sum', in the pinned program and in every row, IS THE sha256 OF THE DUMP (.gsa) THAT YtbnkjgcpjeedfaaGreatProg.lean LOADS. Nothing in Lean hashes anything: it is a label: what it is worth is what the hold of that sum in a sandbox is worth. -/
noncomputable def Tryz.pinned : Pinned := { name := "ytbnkjgcpjeedfaagreat", sum := "1e237d30f538e6acec7ee848a37b97dafe1150d96a1aed2106ce17c97abe81c3", checked := Tryz.checked }
namespace Rows
def none {H : Type} : Left H := { results := [], args := [] }

/-- 'laws.FnCutAnywhere': WHATEVER THE INPUT: true; the input reads as it did. -/
def fnCutAnywhereSpec : ChangeSpec := { name := "fnCutAnywhere", fn := fun _ => fun
  | [d] => { results := [.lit (.bool true)], args := [d] }
  | _ => none }
def fnCutAnywhereRow : OpenClaim := { program := "ytbnkjgcpjeedfaagreat", sum := "1e237d30f538e6acec7ee848a37b97dafe1150d96a1aed2106ce17c97abe81c3", func := "loop.example/g00074/laws.FnCutAnywhere", spec := "fnCutAnywhere", inPlace := ["internal/abi.NoEscape", "internal/bytealg.MakeNoZero"], unfollowed := true, recurses := true, plainKeys := false, apart := false }
def FnCutAnywhereSaid : Prop := fnCutAnywhereRow.holds Tryz.pinned (OpenSpec.ofChange fnCutAnywhereSpec)

/-- ITS FALSE NEIGHBOUR: 'it returns false'. Refute it at one input. -/
def fnCutAnywhereWrong : ChangeSpec := { name := "fnCutAnywhere", fn := fun _ => fun
  | [d] => { results := [.lit (.bool false)], args := [d] }
  | _ => none }
def FnCutAnywhereWrongFalsely : Prop := fnCutAnywhereRow.holds Tryz.pinned (OpenSpec.ofChange fnCutAnywhereWrong)

/-- 'laws.FnCutKeeps': WHATEVER THE INPUT: true; the input reads as it did. -/
def fnCutKeepsSpec : ChangeSpec := { name := "fnCutKeeps", fn := fun _ => fun
  | [d] => { results := [.lit (.bool true)], args := [d] }
  | _ => none }
def fnCutKeepsRow : OpenClaim := { program := "ytbnkjgcpjeedfaagreat", sum := "1e237d30f538e6acec7ee848a37b97dafe1150d96a1aed2106ce17c97abe81c3", func := "loop.example/g00074/laws.FnCutKeeps", spec := "fnCutKeeps", inPlace := ["internal/abi.NoEscape", "internal/bytealg.MakeNoZero"], unfollowed := true, recurses := true, plainKeys := false, apart := false }
def FnCutKeepsSaid : Prop := fnCutKeepsRow.holds Tryz.pinned (OpenSpec.ofChange fnCutKeepsSpec)

/-- ITS FALSE NEIGHBOUR: 'it returns false'. Refute it at one input. -/
def fnCutKeepsWrong : ChangeSpec := { name := "fnCutKeeps", fn := fun _ => fun
  | [d] => { results := [.lit (.bool false)], args := [d] }
  | _ => none }
def FnCutKeepsWrongFalsely : Prop := fnCutKeepsRow.holds Tryz.pinned (OpenSpec.ofChange fnCutKeepsWrong)

/-- 'laws.FnPres': WHATEVER THE INPUT: true; the input reads as it did. -/
def fnPresSpec : ChangeSpec := { name := "fnPres", fn := fun _ => fun
  | [d] => { results := [.lit (.bool true)], args := [d] }
  | _ => none }
def fnPresRow : OpenClaim := { program := "ytbnkjgcpjeedfaagreat", sum := "1e237d30f538e6acec7ee848a37b97dafe1150d96a1aed2106ce17c97abe81c3", func := "loop.example/g00074/laws.FnPres", spec := "fnPres", inPlace := ["internal/abi.NoEscape", "internal/bytealg.MakeNoZero"], recurses := true, plainKeys := false, apart := false }
def FnPresSaid : Prop := fnPresRow.holds Tryz.pinned (OpenSpec.ofChange fnPresSpec)

/-- ITS FALSE NEIGHBOUR: 'it returns false'. Refute it at one input. -/
def fnPresWrong : ChangeSpec := { name := "fnPres", fn := fun _ => fun
  | [d] => { results := [.lit (.bool false)], args := [d] }
  | _ => none }
def FnPresWrongFalsely : Prop := fnPresRow.holds Tryz.pinned (OpenSpec.ofChange fnPresWrong)

/-- 'laws.FnMeets': WHATEVER THE INPUT: true; the input reads as it did. -/
def fnMeetsSpec : ChangeSpec := { name := "fnMeets", fn := fun _ => fun
  | [d] => { results := [.lit (.bool true)], args := [d] }
  | _ => none }
def fnMeetsRow : OpenClaim := { program := "ytbnkjgcpjeedfaagreat", sum := "1e237d30f538e6acec7ee848a37b97dafe1150d96a1aed2106ce17c97abe81c3", func := "loop.example/g00074/laws.FnMeets", spec := "fnMeets", inPlace := ["internal/abi.NoEscape", "internal/bytealg.MakeNoZero"], recurses := true, plainKeys := false, apart := false }
def FnMeetsSaid : Prop := fnMeetsRow.holds Tryz.pinned (OpenSpec.ofChange fnMeetsSpec)

/-- ITS FALSE NEIGHBOUR: 'it returns false'. Refute it at one input. -/
def fnMeetsWrong : ChangeSpec := { name := "fnMeets", fn := fun _ => fun
  | [d] => { results := [.lit (.bool false)], args := [d] }
  | _ => none }
def FnMeetsWrongFalsely : Prop := fnMeetsRow.holds Tryz.pinned (OpenSpec.ofChange fnMeetsWrong)

/- THE SECOND FORM. 'bulk': how many values and letters a reading holds, each counted each time it is reached (what is shared counts as often as it is met; a slice's spare places count too). A statement '..UptoSaid' is the law's where the arguments, and the package variables that the reading takes, are together of bulk at most 1048576: NARROWER than '..Said'. Prove '..Said' where nothing that the law and all that it calls make is longer than what came in: it says more and counts as full. Else prove '..UptoSaid'. A law counts once. -/
mutual
def uptoBulk {H : Type} : DataW H → Nat
  | .lit (.string bytes) => bytes.length + 1
  | .lit _ => 1
  | .nil => 1
  | .ptr d => uptoBulk d + 1
  | .slice elems spare => uptoBulkAll elems + uptoBulkAll spare + 1
  | .agg parts => uptoBulkAll parts + 1
  | .iface _ d => uptoBulk d + 1
  | .map entries => uptoBulkEntries entries + 1
  | .held _ => 1
def uptoBulkAll {H : Type} : List (DataW H) → Nat
  | [] => 0
  | d :: r => uptoBulk d + uptoBulkAll r
def uptoBulkEntries {H : Type} : List (Lit × DataW H) → Nat
  | [] => 0
  | x :: r => uptoBulkEntry x + uptoBulkEntries r
def uptoBulkEntry {H : Type} : Lit × DataW H → Nat
  | (.string bytes, d) => bytes.length + uptoBulk d + 1
  | (_, d) => uptoBulk d + 1
 end
def uptoSmall : (H : Type) → List (DataW H) → Bool := fun _ ds => decide (uptoBulkAll ds ≤ 1048576)
def OpenSpec.upto (s : _root_.Go.ChangeSpec) : _root_.Go.OpenSpec := { _root_.Go.OpenSpec.ofChange s with cond := some uptoSmall }

/-- 'laws.FnCutAnywhere', WHERE WHAT IT READS IS OF BULK AT MOST 1048576: true; the input reads as it did. -/
def fnCutAnywhereUptoRow : OpenClaim := { program := "ytbnkjgcpjeedfaagreat", sum := "1e237d30f538e6acec7ee848a37b97dafe1150d96a1aed2106ce17c97abe81c3", func := "loop.example/g00074/laws.FnCutAnywhere", spec := "fnCutAnywhere", inPlace := ["internal/abi.NoEscape", "internal/bytealg.MakeNoZero"], unfollowed := true, recurses := true, plainKeys := false, apart := false, narrowed := true }
def FnCutAnywhereUptoSaid : Prop := fnCutAnywhereUptoRow.holds Tryz.pinned (OpenSpec.upto fnCutAnywhereSpec)

/-- 'laws.FnCutKeeps', WHERE WHAT IT READS IS OF BULK AT MOST 1048576: true; the input reads as it did. -/
def fnCutKeepsUptoRow : OpenClaim := { program := "ytbnkjgcpjeedfaagreat", sum := "1e237d30f538e6acec7ee848a37b97dafe1150d96a1aed2106ce17c97abe81c3", func := "loop.example/g00074/laws.FnCutKeeps", spec := "fnCutKeeps", inPlace := ["internal/abi.NoEscape", "internal/bytealg.MakeNoZero"], unfollowed := true, recurses := true, plainKeys := false, apart := false, narrowed := true }
def FnCutKeepsUptoSaid : Prop := fnCutKeepsUptoRow.holds Tryz.pinned (OpenSpec.upto fnCutKeepsSpec)

/-- 'laws.FnPres', WHERE WHAT IT READS IS OF BULK AT MOST 1048576: true; the input reads as it did. -/
def fnPresUptoRow : OpenClaim := { program := "ytbnkjgcpjeedfaagreat", sum := "1e237d30f538e6acec7ee848a37b97dafe1150d96a1aed2106ce17c97abe81c3", func := "loop.example/g00074/laws.FnPres", spec := "fnPres", inPlace := ["internal/abi.NoEscape", "internal/bytealg.MakeNoZero"], recurses := true, plainKeys := false, apart := false, narrowed := true }
def FnPresUptoSaid : Prop := fnPresUptoRow.holds Tryz.pinned (OpenSpec.upto fnPresSpec)

/-- 'laws.FnMeets', WHERE WHAT IT READS IS OF BULK AT MOST 1048576: true; the input reads as it did. -/
def fnMeetsUptoRow : OpenClaim := { program := "ytbnkjgcpjeedfaagreat", sum := "1e237d30f538e6acec7ee848a37b97dafe1150d96a1aed2106ce17c97abe81c3", func := "loop.example/g00074/laws.FnMeets", spec := "fnMeets", inPlace := ["internal/abi.NoEscape", "internal/bytealg.MakeNoZero"], recurses := true, plainKeys := false, apart := false, narrowed := true }
def FnMeetsUptoSaid : Prop := fnMeetsUptoRow.holds Tryz.pinned (OpenSpec.upto fnMeetsSpec)

end Rows
end Go.Proofs.YtbnkjgcpjeedfaaGreat

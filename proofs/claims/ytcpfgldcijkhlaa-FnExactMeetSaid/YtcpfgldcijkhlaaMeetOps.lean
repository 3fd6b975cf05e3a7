/-
  Meet: walks. No condition.
-/
import Derived.Test.YtcpfgldcijkhlaaMeetLaw
import Derived.Test.YtcpfgldcijkhlaaUnfr
namespace Go.Proofs.Ytcpfgldcijkhlaa
open Go.RowKit
set_option linter.unusedVariables false

/-- A return of two structs that lie in blocks that are known whole, and a value in a slot. -/
theorem ret_rows_tmp {P : Program} {fn : Func} {R : Ending → World → Prop} {a : Act} {w : World} {p q u : Tmp} {ty g g' t : Nat} {cs cs' : Array Value} {d : TypeDesc} (h : fn.results = #[.cell p ty, .cell q ty, .tmp u])
    (hp : a.tmps.getD p undef = .pointer (some ⟨g, 0, none⟩)) (hq : a.tmps.getD q undef = .pointer (some ⟨g', 0, none⟩)) (hB : Blk w g t cs) (hB' : Blk w g' t cs') (hu : P.underlying ty = some d) (hd : (match d with | .struct _ | .array _ _ => true | _ => false) = true) (hi : (P.info? ty).map (·.size) = some cs.size) (hi' : (P.info? ty).map (·.size) = some cs'.size)
    (hdef : a.defers = []) (hR : R (.returned (.tuple #[.agg cs, .agg cs', a.tmps.getD u undef])) w) : bodyPost P fn R .ret a w := by
  refine bodyPost_ret (v := .tuple #[.agg cs, .agg cs', a.tmps.getD u undef]) ?_ hdef hR
  have h1 := run_loadVar_row w g t ty cs (0, 0) d hB hu hd hi
  have h2 := run_loadVar_row w g' t ty cs' (0, 0) d hB' hu hd hi'
  simp only [results, h]
  rw [show (#[ResultVar.cell p ty, ResultVar.cell q ty, ResultVar.tmp u] : Array ResultVar) = #[.cell p ty, .cell q ty, .tmp u] from rfl]
  simp [Sem.run_bind, Result.andThen]
  have hp' : a.tmps[p]?.getD undef = .pointer (some ⟨g, 0, none⟩) := by rw [← hp]; simp
  have hq' : a.tmps[q]?.getD undef = .pointer (some ⟨g', 0, none⟩) := by rw [← hq]; simp
  rw [hp', hq']
  simp [asAddr, Sem.run_pure, Result.andThen, h1, h2]
end Go.Proofs.Ytcpfgldcijkhlaa

/-
  Reopen's row: its closed facts, each by itself. No condition.
-/
import Derived.Test.YtlgdghpnfclgpaaGreatRows
import Derived.Test.YtlgdghpnfclgpaaGreatArgs
namespace Go.Proofs.YtlgdghpnfclgpaaGreat
theorem and_two2 {a b : Bool} (h1 : a = true) (h2 : b = true) : (a && b) = true := by rw [h1, h2]; rfl
set_option maxHeartbeats 40000000 in
set_option maxRecDepth 100000 in
theorem rpFacts : joinedFacts Tryz.pinned.checked.prog 5 Tryz.f5 Rows.fnExactReopenSpec Rows.fnExactReopenRow = true := by
 unfold joinedFacts
 repeat' (with_reducible refine and_two2 ?_ ?_)
 all_goals (as_aux_lemma => kernel_rfl)
end Go.Proofs.YtlgdghpnfclgpaaGreat

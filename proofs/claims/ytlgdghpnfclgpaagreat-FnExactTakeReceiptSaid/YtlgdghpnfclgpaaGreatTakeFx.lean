/-
  TakeFx: No condition.
-/
import Derived.Test.YtlgdghpnfclgpaaGreatRows
import Derived.Test.YtlgdghpnfclgpaaGreatMem
namespace Go.Proofs.YtlgdghpnfclgpaaGreat
set_option maxHeartbeats 40000000
set_option maxRecDepth 100000
theorem and_two3 {a b : Bool} (h1 : a = true) (h2 : b = true) : (a && b) = true := by rw [h1, h2]; rfl
theorem tkFacts : joinedFacts Tryz.pinned.checked.prog 6 Tryz.f6 Rows.fnExactTakeReceiptSpec Rows.fnExactTakeReceiptRow = true := by
 unfold joinedFacts
 repeat' (with_reducible refine and_two3 ?_ ?_)
 all_goals (as_aux_lemma => kernel_rfl)
end Go.Proofs.YtlgdghpnfclgpaaGreat

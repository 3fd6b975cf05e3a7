/-
  WorldNew's row: its closed facts, each by itself. No condition.
-/
import Derived.Test.YtkcjhfidgnbdiaaGreatRows
import Derived.Test.YtkcjhfidgnbdiaaGreatSmall
namespace Go.Proofs.YtkcjhfidgnbdiaaGreat
theorem and_two {a b : Bool} (h1 : a = true) (h2 : b = true) : (a && b) = true := by rw [h1, h2]; rfl
set_option maxHeartbeats 40000000 in
set_option maxRecDepth 100000 in
theorem wnFacts : joinedFacts Tryz.pinned.checked.prog 6 Tryz.f6 Rows.fnExactWorldNewSpec Rows.fnExactWorldNewRow = true := by
  unfold joinedFacts
  repeat' (with_reducible refine and_two ?_ ?_)
  all_goals (as_aux_lemma => kernel_rfl)
end Go.Proofs.YtkcjhfidgnbdiaaGreat

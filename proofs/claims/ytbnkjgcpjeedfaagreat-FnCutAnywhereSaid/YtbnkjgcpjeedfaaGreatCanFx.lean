/-
  CanFx: No condition.
-/
import Derived.Test.YtbnkjgcpjeedfaaGreatRows
import Derived.Test.YtbnkjgcpjeedfaaGreatMem
namespace Go.Proofs.YtbnkjgcpjeedfaaGreat
set_option maxHeartbeats 40000000
set_option maxRecDepth 100000
theorem and_two3{a b:Bool}(h1:a=true)(h2:b=true):(a&&b)=true:=by rw[h1,h2];rfl
theorem caFacts:joinedFacts Tryz.pinned.checked.prog 3 Tryz.f3 Rows.fnCutAnywhereSpec Rows.fnCutAnywhereRow=true:=by
 unfold joinedFacts
 repeat' (with_reducible refine and_two3 ?_ ?_)
 all_goals (as_aux_lemma=>kernel_rfl)
end Go.Proofs.YtbnkjgcpjeedfaaGreat

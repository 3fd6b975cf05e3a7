/-
  The laws' own copying and comparing functions at Event: walks. Written by program (gen_conv.py). No condition.
-/
import Derived.Test.YteaphajagmbllaaDoorTypes
import Derived.StillTailTactics
namespace Go.Proofs.YteaphajagmbllaaDoor
open Go.RowKit
set_option linter.unusedVariables false

def EventD.lens (d : EventD) : List Nat := []
theorem toEvent_any (d : EventD) (w : World) :
    Calls Tryd.prog 6 #[.agg #[.int .i64 d.kind, .int .i64 d.who, .int .i64 d.leaf, .int .i64 d.code]] w fun e w' => e = .returned (.agg #[.int .i64 d.kind, .int .i64 d.who, .int .i64 d.leaf, .int .i64 d.code]) ∧ Ext w w' := by
  go_enter Tryd.func6, Tryd.ntmps6
  go_wp2
  go_returns
  exact ⟨rfl, by go_grown⟩
end Go.Proofs.YteaphajagmbllaaDoor

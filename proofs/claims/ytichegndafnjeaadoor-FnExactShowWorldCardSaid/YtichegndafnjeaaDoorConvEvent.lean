/-
  The laws' own copying and comparing functions at Event: walks. Written by program (gen_conv.py). No condition.
-/
import Derived.Test.YtichegndafnjeaaDoorTypes
import Derived.StillTailTactics
namespace Go.Proofs.YtichegndafnjeaaDoor
set_option linter.unusedSimpArgs false
open Go.RowKit
set_option linter.unusedVariables false

def EventD.lens (d : EventD) : List Nat := []
end Go.Proofs.YtichegndafnjeaaDoor

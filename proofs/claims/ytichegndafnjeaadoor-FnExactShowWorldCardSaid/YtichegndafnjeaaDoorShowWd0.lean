/-
  ShowWorld: plain. No condition.
-/
import Derived.Test.YtichegndafnjeaaDoorNest
import Derived.Test.YtichegndafnjeaaDoorTypes
import Derived.Test.YtichegndafnjeaaDoorHex
import Derived.Test.YtichegndafnjeaaDoorShowEv
namespace Go.Proofs.YtichegndafnjeaaDoor
set_option linter.unusedSimpArgs false
open Go.RowKit
set_option linter.unusedVariables false

/-- The last of a row of heads, its root in base 16, or '-'. -/
def hexOr (s : ByteArray) : ByteArray := if s.size ≤ 4000 then hexT s else ⟨#[]⟩
def rootWord (l : List HeadD) : ByteArray := match l[l.length - 1]? with
  | none => ⟨#[45]⟩
  | some d => if (decide (d.root.size ≤ 4000) && !(hexOr d.root).toList.isEmpty) = true then hexOr d.root else ⟨#[45]⟩
theorem hexOr_size (s : ByteArray) : (hexOr s).size ≤ 8000 := by
  unfold hexOr
  split
  · rw [hexT_size]; omega
  · decide
theorem rootWord_size (l : List HeadD) : (rootWord l).size ≤ 8000 := by
  unfold rootWord
  split
  · decide
  · split
    · exact hexOr_size _
    · decide
def worldLine (a b c e : Nat) (r : ByteArray) : ByteArray :=
  ⟨#[101, 110, 116, 114, 105, 101, 115, 32]⟩ ++ decT a ++ ⟨#[32, 114, 101, 99, 101, 105, 112, 116, 115, 32]⟩ ++ decT b ++ ⟨#[32, 104, 101, 97, 100, 115, 32]⟩ ++ decT c ++ ⟨#[32, 103, 105, 118, 101, 110, 32]⟩ ++ decT e ++ ⟨#[32, 114, 111, 111, 116, 32]⟩ ++ r ++ ⟨#[10]⟩
end Go.Proofs.YtichegndafnjeaaDoor

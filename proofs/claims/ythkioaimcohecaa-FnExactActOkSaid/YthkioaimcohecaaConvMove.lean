/-
  The laws' own copying and comparing functions at Move: walks. Written by program (gen_conv.py). No condition.
-/
import Derived.Test.YthkioaimcohecaaTypes
import Derived.StillTailTactics
namespace Go.Proofs.Ythkioaimcohecaa
open Go.RowKit
set_option linter.unusedVariables false

def MoveD.lens (d : MoveD) : List Nat := [d.topic.size, d.text.size]
theorem szMove_any (d : MoveD) (left : Int) (w : World) (hd : d.Ok) (h0 : 0 ≤ left) (h1 : left ≤ 1048576) :
    Calls Try.prog 17 #[.agg #[.int .i64 d.kind, .int .i64 d.who, .int .i64 d.other, .string d.topic, .int .i64 d.index, .string d.text], .int .i64 left] w fun e w' => e = .returned (.int .i64 (szL d.lens left)) ∧ Ext w w' := by
  obtain ⟨k0, k1, k2, k3, k4, k5⟩ := hd
  unfold maxLen at *
  clear k0 k1 k2 k4
  go_enter Try.func17, Try.ntmps17
  go_wp2
  all_goals
    go_ret
    exact ⟨ret_int (by simp only [szL, MoveD.lens]; (repeat' split) <;> omega), by go_grown⟩
theorem toMove_any (d : MoveD) (w : World) :
    Calls Try.prog 19 #[.agg #[.int .i64 d.kind, .int .i64 d.who, .int .i64 d.other, .string d.topic, .int .i64 d.index, .string d.text]] w fun e w' => e = .returned (.agg #[.int .i64 d.kind, .int .i64 d.who, .int .i64 d.other, .string d.topic, .int .i64 d.index, .string d.text]) ∧ Ext w w' := by
  go_enter Try.func19, Try.ntmps19
  go_wp2
  go_returns
  exact ⟨rfl, by go_grown⟩
end Go.Proofs.Ythkioaimcohecaa

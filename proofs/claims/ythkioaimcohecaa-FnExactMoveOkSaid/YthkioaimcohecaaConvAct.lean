/-
  The laws' own copying and comparing functions at Act: walks. Written by program (gen_conv.py). No condition.
-/
import Derived.Test.YthkioaimcohecaaTypes
import Derived.StillTailTactics
namespace Go.Proofs.Ythkioaimcohecaa
open Go.RowKit
set_option linter.unusedVariables false

def ActD.lens (d : ActD) : List Nat := [d.topic.size, d.key.size, d.body.size]
theorem szAct_any (d : ActD) (left : Int) (w : World) (hd : d.Ok) (h0 : 0 ≤ left) (h1 : left ≤ 1048576) :
    Calls Try.prog 21 #[.agg #[.int .i64 d.kind, .int .i64 d.who, .int .i64 d.other, .string d.topic, .int .i64 d.index, .int .i64 d.time, .string d.key, .string d.body, .bool d.cut, .int .i64 d.whole_, .int .i64 d.part_, .int .i64 d.again], .int .i64 left] w fun e w' => e = .returned (.int .i64 (szL d.lens left)) ∧ Ext w w' := by
  obtain ⟨k0, k1, k2, k3, k4, k5, k6, k7, k8, k9, k10⟩ := hd
  unfold maxLen at *
  clear k0 k1 k2 k4 k5 k8 k9 k10
  go_enter Try.func21, Try.ntmps21
  go_wp2
  all_goals
    go_ret
    exact ⟨ret_int (by simp only [szL, ActD.lens]; (repeat' split) <;> omega), by go_grown⟩
theorem toAct_any (d : ActD) (w : World) :
    Calls Try.prog 23 #[.agg #[.int .i64 d.kind, .int .i64 d.who, .int .i64 d.other, .string d.topic, .int .i64 d.index, .int .i64 d.time, .string d.key, .string d.body, .bool d.cut, .int .i64 d.whole_, .int .i64 d.part_, .int .i64 d.again]] w fun e w' => e = .returned (.agg #[.int .i64 d.kind, .int .i64 d.who, .int .i64 d.other, .string d.topic, .int .i64 d.index, .int .i64 d.time, .string d.key, .string d.body, .bool d.cut, .int .i64 d.whole_, .int .i64 d.part_, .int .i64 d.again]) ∧ Ext w w' := by
  go_enter Try.func23, Try.ntmps23
  go_wp2
  go_returns
  exact ⟨rfl, by go_grown⟩
end Go.Proofs.Ythkioaimcohecaa

/-
  Evidence: walks. No condition.
-/
import Derived.Test.YteaphajagmbllaaForks
namespace Go.Proofs.Yteaphajagmbllaa
open Go.RowKit
set_option linter.unusedVariables false

theorem EvidenceD.oks {d : EvidenceD} (hd : d.Ok) : d.a.Ok ∧ d.b.Ok := by
  unfold EvidenceD.Ok at hd
  exact ⟨⟨hd.2.1, hd.2.2.1, hd.2.2.2.1, hd.2.2.2.2.1, hd.2.2.2.2.2.1⟩, hd.2.2.2.2.2.2⟩
theorem implEvidenceOk_any (d : EvidenceD) (w : World) (hd : d.Ok) : Calls Try.prog 20 #[.agg #[.int .i64 d.width, .int .i64 d.a.number, .int .i64 d.a.size, .string d.a.root, .int .i64 d.a.taken, .string d.a.takenRoot, .int .i64 d.b.number, .int .i64 d.b.size, .string d.b.root, .int .i64 d.b.taken, .string d.b.takenRoot]] w fun e w' => e = .returned (.bool (forkB d.width d.a d.b)) ∧ Ext w w' := by
  obtain ⟨ha, hb⟩ := EvidenceD.oks hd
  have He := Lib.hid (Ext.new (Below.refl w.heap.size w) (.cells #[.int .i64 d.width, .int .i64 d.a.number, .int .i64 d.a.size, .string d.a.root, .int .i64 d.a.taken, .string d.a.takenRoot, .int .i64 d.b.number, .int .i64 d.b.size, .string d.b.root, .int .i64 d.b.taken, .string d.b.takenRoot] 47))
  go_enter Try.func20, Try.ntmps20
  go_wp2_with fail
  refine (implForkOf_any d.width d.a d.b _ ha hb).mono ?_
  rintro e w1 ⟨rfl, h1⟩
  have he := He.out.next h1
  go_wp2_with fail
  go_ret
  exact ⟨rfl, he⟩
end Go.Proofs.Yteaphajagmbllaa

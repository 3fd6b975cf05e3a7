/-
  LawTakeReceipt: No condition.
-/
import Derived.Test.YtlgdghpnfclgpaaGreatRows
import Derived.Test.YtlgdghpnfclgpaaGreatMem
import Derived.Test.YtlgdghpnfclgpaaGreatTakeLw
import Derived.Test.YtlgdghpnfclgpaaGreatTakeFx
namespace Go.Proofs.YtlgdghpnfclgpaaGreat
set_option maxRecDepth 100000
set_option linter.unusedSimpArgs false
open Go.RowKit Go.WideShapes Go.ChangeAt
set_option linter.unusedVariables false
theorem TakeReceipt_holds : Rows.FnExactTakeReceiptSaid :=
 lawOver (p := Tryz.pinned) (c := Rows.fnExactTakeReceiptRow) (s := Rows.fnExactTakeReceiptSpec) 6 Tryz.f6 4
  own laidOut (by kernel_rfl) (by kernel_rfl) rfl rfl Tryz.underlying4
  (fun H ds h => by match ds, h with | [d0, d1], _ => rfl)
  rfl rfl rfl rfl rfl rfl rfl ⟨rfl, rfl, rfl, rfl, rfl⟩ rfl rfl rfl rfl rfl (by kernel_rfl) Tryz.func6 tkFacts
  (of_decide_eq_true (by kernel_rfl)) (by unfold Func.isWrapper; rw [if_neg (of_decide_eq_false (by kernel_rfl))]; exact ⟨rfl, rfl⟩)
  rfl rfl (fun _ _ => rfl) rfl rfl rfl rfl
  (fun os started H enc => ChangeSpec.witness6 (enc := enc) (C := Tryz.checked) false ⟨#[], #[.agg #[.int .i64 0, .slice none 0 0, .slice none 0 0, .slice none 0 0, .int .i64 0, .slice none 0 0, .int .i64 0, .slice none 0 0, .int .i64 0, .int .i64 0, .string ⟨#[]⟩, .int .i64 0, .string ⟨#[]⟩], .agg #[.string ⟨#[]⟩, .string ⟨#[]⟩, .int .i64 0]], []⟩ 20 (by kernel_rfl) (by kernel_rfl) (by kernel_rfl) (by kernel_rfl))
  (fun W args h => by
   have hs := h.size
   obtain ⟨l⟩ := args
   match l, hs with
   | [v0, v1], _ =>
     obtain ⟨base0, n0, o0, t0⟩ := h.arg 0 43 v0 rfl rfl
     obtain ⟨base1, n1, o1, t1⟩ := h.arg 1 74 v1 rfl rfl
     obtain ⟨cs0, rfl, _⟩ := okWide_struct Tryz.underlying43 o0
     obtain ⟨cs1, rfl, _⟩ := okWide_struct Tryz.underlying74 o1
     obtain ⟨b, ⟨A0, c0, A1, c1, A2, c2, A3, c3, A4, c4, e0, s0, s1, s2, s3, s4⟩, hok⟩ := BrokerD.typed t0
     obtain ⟨r, e1, hrk⟩ := ReceiptD.typed t1
     obtain rfl : cs0 = (brkV b A0 c0 A1 c1 A2 c2 A3 c3 A4 c4).toArray := by have h2 : cs0.toList = brkV b A0 c0 A1 c1 A2 c2 A3 c3 A4 c4 := e0; rw [← Array.toList_inj, h2]
     obtain rfl : cs1 = r.cells.toArray := by have h2 : cs1.toList = r.cells := e1; rw [← Array.toList_inj, h2]
     exact lawTakeReceipt_walk b r A0 c0 A1 c1 A2 c2 A3 c3 A4 c4 W hok hrk ⟨s0, s1, s2, s3, s4⟩)
#print axioms TakeReceipt_holds
end Go.Proofs.YtlgdghpnfclgpaaGreat

/-
  LawSealNow: No condition.
-/
import Derived.Test.YtlgdghpnfclgpaaGreatRows
import Derived.Test.YtlgdghpnfclgpaaGreatMem
import Derived.Test.YtlgdghpnfclgpaaGreatSealFx
namespace Go.Proofs.YtlgdghpnfclgpaaGreat
set_option maxRecDepth 100000
set_option linter.unusedSimpArgs false
open Go.RowKit Go.WideShapes Go.ChangeAt
set_option linter.unusedVariables false
theorem SealNow_holds : Rows.FnExactSealNowSaid :=
 lawOver (p := Tryz.pinned) (c := Rows.fnExactSealNowRow) (s := Rows.fnExactSealNowSpec) 8 Tryz.f8 4
  own laidOut (by kernel_rfl) (by kernel_rfl) rfl rfl Tryz.underlying4
  (fun H ds h => by match ds, h with | [d0], _ => rfl)
  rfl rfl rfl rfl rfl rfl rfl ⟨rfl, rfl, rfl, rfl, rfl⟩ rfl rfl rfl rfl rfl (by kernel_rfl) Tryz.func8 snFacts
  (of_decide_eq_true (by kernel_rfl)) (by unfold Func.isWrapper; rw [if_neg (of_decide_eq_false (by kernel_rfl))]; exact ⟨rfl, rfl⟩)
  rfl rfl (fun _ _ => rfl) rfl rfl rfl rfl
  (fun os started H enc => ChangeSpec.witness6 (enc := enc) (C := Tryz.checked) false ⟨#[], #[.agg #[.int .i64 0, .slice none 0 0, .slice none 0 0, .slice none 0 0, .int .i64 0, .slice none 0 0, .int .i64 0, .slice none 0 0, .int .i64 0, .int .i64 0, .string ⟨#[]⟩, .int .i64 0, .string ⟨#[]⟩]], []⟩ 20 (by kernel_rfl) (by kernel_rfl) (by kernel_rfl) (by kernel_rfl))
  (fun W args h => by
   have hs := h.size
   obtain ⟨l⟩ := args
   match l, hs with
   | [v0], _ =>
     obtain ⟨base0, n0, o0, t0⟩ := h.arg 0 43 v0 rfl rfl
     obtain ⟨cs0, rfl, _⟩ := okWide_struct Tryz.underlying43 o0
     obtain ⟨b, ⟨A0, c0, A1, c1, A2, c2, A3, c3, A4, c4, e0, s0, s1, s2, s3, s4⟩, hok⟩ := BrokerD.typed t0
     obtain rfl : cs0 = (brkV b A0 c0 A1 c1 A2 c2 A3 c3 A4 c4).toArray := by have h2 : cs0.toList = brkV b A0 c0 A1 c1 A2 c2 A3 c3 A4 c4 := e0; rw [← Array.toList_inj, h2]
     exact lawSealNow_walk b A0 c0 A1 c1 A2 c2 A3 c3 A4 c4 W hok ⟨s0, s1, s2, s3, s4⟩)
#print axioms SealNow_holds
end Go.Proofs.YtlgdghpnfclgpaaGreat

/-
  LawPublish: No condition.
-/
import Derived.Test.YtlgdghpnfclgpaaGreatRows
import Derived.Test.YtlgdghpnfclgpaaGreatMem
import Derived.Test.YtlgdghpnfclgpaaGreatPubFx
namespace Go.Proofs.YtlgdghpnfclgpaaGreat
set_option maxRecDepth 100000
set_option linter.unusedSimpArgs false
open Go.RowKit Go.WideShapes Go.ChangeAt
set_option linter.unusedVariables false
theorem Publish_holds : Rows.FnExactPublishSaid :=
 lawOver (p := Tryz.pinned) (c := Rows.fnExactPublishRow) (s := Rows.fnExactPublishSpec) 7 Tryz.f7 4
  own laidOut (by kernel_rfl) (by kernel_rfl) rfl rfl Tryz.underlying4
  (fun H ds h => by match ds, h with | [d0, d1, d2, d3, d4], _ => rfl)
  rfl rfl rfl rfl rfl rfl rfl ⟨rfl, rfl, rfl, rfl, rfl⟩ rfl rfl rfl rfl rfl (by kernel_rfl) Tryz.func7 pbFacts
  (of_decide_eq_true (by kernel_rfl)) (by unfold Func.isWrapper; rw [if_neg (of_decide_eq_false (by kernel_rfl))]; exact ⟨rfl, rfl⟩)
  rfl rfl (fun _ _ => rfl) rfl rfl rfl rfl
  (fun os started H enc => ChangeSpec.witness6 (enc := enc) (C := Tryz.checked) false ⟨#[], #[.agg #[.int .i64 0, .slice none 0 0, .slice none 0 0, .slice none 0 0, .int .i64 0, .slice none 0 0, .int .i64 0, .slice none 0 0, .int .i64 0, .int .i64 0, .string ⟨#[]⟩, .int .i64 0, .string ⟨#[]⟩], .string ⟨#[]⟩, .int .i64 0, .string ⟨#[]⟩, .string ⟨#[]⟩], []⟩ 20 (by kernel_rfl) (by kernel_rfl) (by kernel_rfl) (by kernel_rfl))
  (fun W args h => by
   have hs := h.size
   obtain ⟨l⟩ := args
   match l, hs with
   | [v0, v1, v2, v3, v4], _ =>
     obtain ⟨base0, n0, o0, t0⟩ := h.arg 0 43 v0 rfl rfl
     obtain ⟨base1, n1, o1, t1⟩ := h.arg 1 9 v1 rfl rfl
     obtain ⟨base2, n2, o2, t2⟩ := h.arg 2 3 v2 rfl rfl
     obtain ⟨base3, n3, o3, t3⟩ := h.arg 3 9 v3 rfl rfl
     obtain ⟨base4, n4, o4, t4⟩ := h.arg 4 9 v4 rfl rfl
     obtain ⟨cs0, rfl, _⟩ := okWide_struct Tryz.underlying43 o0
     obtain ⟨b, ⟨A0, c0, A1, c1, A2, c2, A3, c3, A4, c4, e0, r0, r1, r2, r3, r4⟩, hok⟩ := BrokerD.typed t0
     obtain rfl : cs0 = (brkV b A0 c0 A1 c1 A2 c2 A3 c3 A4 c4).toArray := by have h2 : cs0.toList = brkV b A0 c0 A1 c1 A2 c2 A3 c3 A4 c4 := e0; rw [← Array.toList_inj, h2]
     obtain ⟨tp, rfl⟩ := okWide_string Tryz.underlying9 o1
     obtain ⟨s1, e1, h1⟩ := typed_string Tryz.underlying9 t1
     obtain rfl : tp = s1 := by simpa [Value.cells] using e1
     obtain ⟨tm, rfl⟩ := okWide_int Tryz.underlying3 o2
     obtain ⟨s2, e2, h2⟩ := typed_int Tryz.underlying3 t2
     obtain rfl : tm = s2 := by simpa [Value.cells] using e2
     obtain ⟨ky, rfl⟩ := okWide_string Tryz.underlying9 o3
     obtain ⟨s3, e3, h3⟩ := typed_string Tryz.underlying9 t3
     obtain rfl : ky = s3 := by simpa [Value.cells] using e3
     obtain ⟨bd, rfl⟩ := okWide_string Tryz.underlying9 o4
     obtain ⟨s4, e4, h4⟩ := typed_string Tryz.underlying9 t4
     obtain rfl : bd = s4 := by simpa [Value.cells] using e4
     exact lawPublish_walk b tp tm ky bd A0 c0 A1 c1 A2 c2 A3 c3 A4 c4 W hok ⟨h1, (show (Lit.int .i64 0).wf = true by decide), h2, h3, h4⟩ ⟨r0, r1, r2, r3, r4⟩)
#print axioms Publish_holds
end Go.Proofs.YtlgdghpnfclgpaaGreat

/-
  LawFetch: No condition.
-/
import Derived.Test.YtlgdghpnfclgpaaGreatRows
import Derived.Test.YtlgdghpnfclgpaaGreatArgs
import Derived.Test.YtlgdghpnfclgpaaGreatFetFx
namespace Go.Proofs.YtlgdghpnfclgpaaGreat
set_option maxRecDepth 100000
set_option linter.unusedSimpArgs false
open Go.RowKit Go.WideShapes Go.ChangeAt
set_option linter.unusedVariables false
theorem Fetch_holds : Rows.FnExactFetchSaid :=
 lawOver (p := Tryz.pinned) (c := Rows.fnExactFetchRow) (s := Rows.fnExactFetchSpec) 4 Tryz.f4 4
  own laidOut (by kernel_rfl) (by kernel_rfl) rfl rfl Tryz.underlying4
  (fun H ds h => by match ds, h with | [d0, d1, d2, d3], _ => rfl)
  rfl rfl rfl rfl rfl rfl rfl ⟨rfl, rfl, rfl, rfl, rfl⟩ rfl rfl rfl rfl rfl (by kernel_rfl) Tryz.func4 ftFacts
  (of_decide_eq_true (by kernel_rfl)) (by unfold Func.isWrapper; rw [if_neg (of_decide_eq_false (by kernel_rfl))]; exact ⟨rfl, rfl⟩)
  rfl rfl (fun _ _ => rfl) rfl rfl rfl rfl
  (fun os started H enc => ChangeSpec.witness6 (enc := enc) (C := Tryz.checked) false ⟨#[], #[.agg #[.int .i64 0, .slice none 0 0, .slice none 0 0, .slice none 0 0, .int .i64 0, .slice none 0 0, .int .i64 0, .slice none 0 0, .int .i64 0, .int .i64 0, .string ⟨#[]⟩, .int .i64 0, .string ⟨#[]⟩], .string ⟨#[]⟩, .int .i64 0, .int .i64 0], []⟩ 20 (by kernel_rfl) (by kernel_rfl) (by kernel_rfl) (by kernel_rfl))
  (fun W args h => by
   have hs := h.size
   obtain ⟨l⟩ := args
   match l, hs with
   | [v0, v1, v2, v3], _ =>
     obtain ⟨base0, n0, o0, t0⟩ := h.arg 0 43 v0 rfl rfl
     obtain ⟨base1, n1, o1, t1⟩ := h.arg 1 9 v1 rfl rfl
     obtain ⟨base2, n2, o2, t2⟩ := h.arg 2 3 v2 rfl rfl
     obtain ⟨base3, n3, o3, t3⟩ := h.arg 3 3 v3 rfl rfl
     obtain ⟨cs0, rfl, _⟩ := okWide_struct Tryz.underlying43 o0
     obtain ⟨b, ⟨A0, c0, A1, c1, A2, c2, A3, c3, A4, c4, e0, r0, r1, r2, r3, r4⟩, hok⟩ := BrokerD.typed t0
     obtain rfl : cs0 = (brkV b A0 c0 A1 c1 A2 c2 A3 c3 A4 c4).toArray := by have h2 : cs0.toList = brkV b A0 c0 A1 c1 A2 c2 A3 c3 A4 c4 := e0; rw [← Array.toList_inj, h2]
     obtain ⟨tp, rfl⟩ := okWide_string Tryz.underlying9 o1
     obtain ⟨ix, rfl⟩ := okWide_int Tryz.underlying3 o2
     obtain ⟨sz, rfl⟩ := okWide_int Tryz.underlying3 o3
     exact lawFetch_walk b tp ix sz A0 c0 A1 c1 A2 c2 A3 c3 A4 c4 W hok ⟨r0, r1, r2, r3, r4⟩)
#print axioms Fetch_holds
end Go.Proofs.YtlgdghpnfclgpaaGreat

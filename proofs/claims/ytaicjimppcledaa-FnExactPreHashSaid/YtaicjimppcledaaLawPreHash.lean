/-
  The program's PreHash returns what the reference's returns, for all arguments. No condition.
-/
import Derived.Test.YtaicjimppcledaaRows
import Derived.Test.YtaicjimppcledaaFacts
import Derived.Test.YtaicjimppcledaaPre
import Derived.Test.YtaicjimppcledaaConvPre
namespace Go.Proofs.Ytaicjimppcledaa
open Go.RowKit Go.WideShapes Go.ChangeAt
set_option linter.unusedVariables false
theorem lawPreHash_walk (n : Int) (d : PreD) (w : World) (hd : d.Ok) :
    Calls Try.prog 3 #[.int .i64 n, .agg #[.int .i64 d.tag, .string d.text]] w fun e w' => e = .returned (.bool true) ∧ Ext w w' := by
  by_cases c : szL d.lens 1048576 < 0
  all_goals
    go_enter Try.func3, Try.ntmps3
    go_wp2_with fail
    have hb := Blk.new w 23 #[.int .i64 d.tag, .string d.text]
    have he := Ext.new (Below.refl w.heap.size w) (.cells #[.int .i64 d.tag, .string d.text] 23)
    refine (szPre_any d _ _ hd (by decide) (by decide)).mono ?_
    rintro e w1 ⟨rfl, h1⟩
    replace hb := hb.ext h1; replace he := he.next h1; clear h1; obtain ⟨hc, hf⟩ := hb.rules
    go_wp2_with fail
  · go_ret
    exact ⟨rfl, he⟩
  · refine (toPre_any d _).mono ?_
    rintro e w2 ⟨rfl, h1⟩
    replace hb := hb.ext h1; replace he := he.next h1; clear h1 hc hf; obtain ⟨hc, hf⟩ := hb.rules
    go_wp2_with fail
    refine (specPreHash_any n d _ hd).mono ?_
    rintro e w3 ⟨rfl, h1⟩
    replace hb := hb.ext h1; replace he := he.next h1; clear h1 hc hf; obtain ⟨hc, hf⟩ := hb.rules
    go_wp2_with fail
    refine (toPre_any d _).mono ?_
    rintro e w4 ⟨rfl, h1⟩
    replace hb := hb.ext h1; replace he := he.next h1; clear h1 hc hf; obtain ⟨hc, hf⟩ := hb.rules
    go_wp2_with fail
    refine (implPreHash_any n d _ hd).mono ?_
    rintro e w5 ⟨rfl, h1⟩
    replace hb := hb.ext h1; replace he := he.next h1; clear h1 hc hf; obtain ⟨hc, hf⟩ := hb.rules
    go_wp2_with fail
    go_ret
    exact ⟨rfl, he⟩

set_option maxRecDepth 100000 in
theorem PreHash_holds : Rows.FnExactPreHashSaid :=
  lawOver (p := Try.pinned) (c := Rows.fnExactPreHashRow) (s := Rows.fnExactPreHashSpec) 3 Try.f3 4
    own laidOut (by kernel_rfl) (by kernel_rfl) rfl rfl Try.underlying4
    (fun H ds h => by match ds, h with | [d0, d1], _ => rfl)
    rfl rfl rfl rfl rfl rfl rfl ⟨rfl, rfl, rfl, rfl, rfl⟩ rfl rfl rfl rfl rfl (by kernel_rfl) Try.func3 (by kernel_rfl)
    (of_decide_eq_true (by kernel_rfl)) (by unfold Func.isWrapper; rw [if_neg (of_decide_eq_false (by kernel_rfl))]; exact ⟨rfl, rfl⟩)
    rfl rfl (fun _ _ => rfl) rfl rfl rfl rfl
    (fun os started H enc => ChangeSpec.witness6 (enc := enc) (C := Try.checked) false ⟨#[], #[.int .i64 0, .agg #[.int .i64 0, .string ⟨#[]⟩]], []⟩ 20 (by kernel_rfl) (by kernel_rfl) (by kernel_rfl) (by kernel_rfl))
    (fun W args h => by
      have hs := h.size
      obtain ⟨l⟩ := args
      match l, hs with
      | [v0, v1], _ =>
        obtain ⟨base0, n0, o0, t0⟩ := h.arg 0 3 v0 rfl rfl
        obtain ⟨base1, n1, o1, t1⟩ := h.arg 1 23 v1 rfl rfl
        obtain ⟨a0, rfl⟩ := okWide_int Try.underlying3 o0
        obtain ⟨cs1, rfl, _⟩ := okWide_struct Try.underlying23 o1
        obtain ⟨d, hd, hk⟩ := PreD.typed t1
        obtain rfl : cs1 = d.cells.toArray := by have h2 : cs1.toList = d.cells := hd; rw [← h2]
        exact lawPreHash_walk a0 d W hk)
#print axioms PreHash_holds
end Go.Proofs.Ytaicjimppcledaa

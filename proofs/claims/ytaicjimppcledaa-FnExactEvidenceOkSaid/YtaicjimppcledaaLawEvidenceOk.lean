/-
  The program's EvidenceOk returns what the reference's returns, for all arguments. No condition.
-/
import Derived.Test.YtaicjimppcledaaRows
import Derived.Test.YtaicjimppcledaaFacts
import Derived.Test.YtaicjimppcledaaEvidenceOps
import Derived.Test.YtaicjimppcledaaConvEvidence
namespace Go.Proofs.Ytaicjimppcledaa
open Go.RowKit Go.WideShapes Go.ChangeAt
set_option linter.unusedVariables false
set_option maxHeartbeats 2000000 in
set_option maxRecDepth 100000 in
theorem lawEvidenceOk_walk (a : EvidenceD) (w : World) (ha : a.Ok) :
    Calls Try.prog 5 #[.agg #[.int .i64 a.width, .int .i64 a.a.number, .int .i64 a.a.size, .string a.a.root, .int .i64 a.a.taken, .string a.a.takenRoot, .int .i64 a.b.number, .int .i64 a.b.size, .string a.b.root, .int .i64 a.b.taken, .string a.b.takenRoot]] w fun e w' => e = .returned (.bool true) ∧ Ext w w' := by
  have K0 := Blk.new w 35 #[.int .i64 a.width, .int .i64 a.a.number, .int .i64 a.a.size, .string a.a.root, .int .i64 a.a.taken, .string a.a.takenRoot, .int .i64 a.b.number, .int .i64 a.b.size, .string a.b.root, .int .i64 a.b.taken, .string a.b.takenRoot]
  have he := Ext.new (Below.refl w.heap.size w) (.cells #[.int .i64 a.width, .int .i64 a.a.number, .int .i64 a.a.size, .string a.a.root, .int .i64 a.a.taken, .string a.a.takenRoot, .int .i64 a.b.number, .int .i64 a.b.size, .string a.b.root, .int .i64 a.b.taken, .string a.b.takenRoot] 35)
  by_cases c0 : szL a.lens 1048576 < 0
  · go_enter Try.func5, Try.ntmps5
    obtain ⟨r0, m0⟩ := K0.rules
    go_wp2_with fail
    obtain ⟨g, hg⟩ : ∃ g, g = w.heap.size := ⟨_, rfl⟩
    rw [← hg] at K0
    rw [← hg]
    clear hg
    clear r0 m0
    obtain ⟨r0, m0⟩ := K0.rules
    refine (szEvidence_any a _ _ ha (by decide) (by decide)).mono ?_
    rintro e w1 ⟨rfl, h1⟩
    replace K0 := K0.ext h1
    replace he := he.next h1
    clear h1
    clear r0 m0
    obtain ⟨r0, m0⟩ := K0.rules
    go_wp2_with fail
    go_ret
    exact ⟨rfl, he⟩
  have u0 : szL a.lens 1048576 ≤ 1048576 := szL_upto (by decide) c0
  go_enter Try.func5, Try.ntmps5
  obtain ⟨r0, m0⟩ := K0.rules
  go_wp2_with fail
  obtain ⟨g, hg⟩ : ∃ g, g = w.heap.size := ⟨_, rfl⟩
  rw [← hg] at K0
  rw [← hg]
  clear hg
  clear r0 m0
  obtain ⟨r0, m0⟩ := K0.rules
  refine (szEvidence_any a _ _ ha (by decide) (by decide)).mono ?_
  rintro e w2 ⟨rfl, h1⟩
  replace K0 := K0.ext h1
  replace he := he.next h1
  clear h1
  clear r0 m0
  obtain ⟨r0, m0⟩ := K0.rules
  go_wp2_with fail
  refine (toEvidence_any a _).mono ?_
  rintro e w3 ⟨rfl, h1⟩
  replace K0 := K0.ext h1
  replace he := he.next h1
  clear h1
  clear r0 m0
  obtain ⟨r0, m0⟩ := K0.rules
  go_wp2_with fail
  refine (specEvidenceOk_any a _ ha).mono ?_
  rintro e w4 ⟨rfl, h1⟩
  replace K0 := K0.ext h1
  replace he := he.next h1
  clear h1
  clear r0 m0
  obtain ⟨r0, m0⟩ := K0.rules
  go_wp2_with fail
  refine (toEvidence_any a _).mono ?_
  rintro e w5 ⟨rfl, h1⟩
  replace K0 := K0.ext h1
  replace he := he.next h1
  clear h1
  clear r0 m0
  obtain ⟨r0, m0⟩ := K0.rules
  go_wp2_with fail
  refine (implEvidenceOk_any a _ ha).mono ?_
  rintro e w6 ⟨rfl, h1⟩
  replace K0 := K0.ext h1
  replace he := he.next h1
  clear h1
  clear r0 m0
  obtain ⟨r0, m0⟩ := K0.rules
  go_wp2_with fail
  go_ret
  exact ⟨rfl, he⟩

set_option maxRecDepth 100000 in
theorem EvidenceOk_holds : Rows.FnExactEvidenceOkSaid :=
  lawOver (p := Try.pinned) (c := Rows.fnExactEvidenceOkRow) (s := Rows.fnExactEvidenceOkSpec) 5 Try.f5 4
    own laidOut (by kernel_rfl) (by kernel_rfl) rfl rfl Try.underlying4
    (fun H ds h => by match ds, h with | [d0], _ => rfl)
    rfl rfl rfl rfl rfl rfl rfl ⟨rfl, rfl, rfl, rfl, rfl⟩ rfl rfl rfl rfl rfl (by kernel_rfl) Try.func5 (by kernel_rfl)
    (of_decide_eq_true (by kernel_rfl)) (by unfold Func.isWrapper; rw [if_neg (of_decide_eq_false (by kernel_rfl))]; exact ⟨rfl, rfl⟩)
    rfl rfl (fun _ _ => rfl) rfl rfl rfl rfl
    (fun os started H enc => ChangeSpec.witness6 (enc := enc) (C := Try.checked) false ⟨#[], #[.agg #[.int .i64 0, .int .i64 0, .int .i64 0, .string ⟨#[]⟩, .int .i64 0, .string ⟨#[]⟩, .int .i64 0, .int .i64 0, .string ⟨#[]⟩, .int .i64 0, .string ⟨#[]⟩]], []⟩ 20 (by kernel_rfl) (by kernel_rfl) (by kernel_rfl) (by kernel_rfl))
    (fun W args h => by
      have hs := h.size
      obtain ⟨l⟩ := args
      match l, hs with
      | [v0], _ =>
        obtain ⟨base0, n0, o0, t0⟩ := h.arg 0 35 v0 rfl rfl
        obtain ⟨cs0, rfl, _⟩ := okWide_struct Try.underlying35 o0
        obtain ⟨a, e0, ha⟩ := EvidenceD.typed t0
        obtain rfl : cs0 = a.cells.toArray := by have h2 : cs0.toList = a.cells := e0; rw [← h2]
        exact lawEvidenceOk_walk a W ha)
#print axioms EvidenceOk_holds
end Go.Proofs.Ytaicjimppcledaa

/-
  The program's CompareHeads returns what the reference's returns, for all arguments. No condition.
-/
import Derived.Test.YtaicjimppcledaaRows
import Derived.Test.YtaicjimppcledaaFacts
import Derived.Test.YtaicjimppcledaaForks
import Derived.Test.YtaicjimppcledaaConvHead
namespace Go.Proofs.Ytaicjimppcledaa
open Go.RowKit Go.WideShapes Go.ChangeAt
set_option linter.unusedVariables false
set_option maxHeartbeats 2000000 in
set_option maxRecDepth 100000 in
theorem lawCompareHeads_walk (n : Int) (a : HeadD) (b : HeadD) (w : World) (ha : a.Ok) (hb : b.Ok) :
    Calls Try.prog 6 #[.int .i64 n, .agg #[.int .i64 a.number, .int .i64 a.size, .string a.root, .int .i64 a.taken, .string a.takenRoot], .agg #[.int .i64 b.number, .int .i64 b.size, .string b.root, .int .i64 b.taken, .string b.takenRoot]] w fun e w' => e = .returned (.bool true) ∧ Ext w w' := by
  obtain ⟨K0, K1, he⟩ := two_blks w #[.int .i64 a.number, .int .i64 a.size, .string a.root, .int .i64 a.taken, .string a.takenRoot] #[.int .i64 b.number, .int .i64 b.size, .string b.root, .int .i64 b.taken, .string b.takenRoot] 33 33
  by_cases c0 : szL a.lens 1048576 < 0
  · go_enter Try.func6, Try.ntmps6
    obtain ⟨r0, m0⟩ := K0.rules
    obtain ⟨r1, m1⟩ := K1.rules
    go_wp2_with fail
    obtain ⟨g, hg⟩ : ∃ g, g = w.heap.size := ⟨_, rfl⟩
    rw [← hg] at K0 K1
    rw [← hg]
    clear hg
    clear r0 m0 r1 m1
    obtain ⟨r0, m0⟩ := K0.rules
    obtain ⟨r1, m1⟩ := K1.rules
    refine (szHead_any a _ _ ha (by decide) (by decide)).mono ?_
    rintro e w1 ⟨rfl, h1⟩
    replace K0 := K0.ext h1
    replace K1 := K1.ext h1
    replace he := he.next h1
    clear h1
    clear r0 m0 r1 m1
    obtain ⟨r0, m0⟩ := K0.rules
    obtain ⟨r1, m1⟩ := K1.rules
    go_wp2_with fail
    go_ret
    exact ⟨rfl, he⟩
  have u0 : szL a.lens 1048576 ≤ 1048576 := szL_upto (by decide) c0
  by_cases c1 : szL b.lens (szL a.lens 1048576) < 0
  · go_enter Try.func6, Try.ntmps6
    obtain ⟨r0, m0⟩ := K0.rules
    obtain ⟨r1, m1⟩ := K1.rules
    go_wp2_with fail
    obtain ⟨g, hg⟩ : ∃ g, g = w.heap.size := ⟨_, rfl⟩
    rw [← hg] at K0 K1
    rw [← hg]
    clear hg
    clear r0 m0 r1 m1
    obtain ⟨r0, m0⟩ := K0.rules
    obtain ⟨r1, m1⟩ := K1.rules
    refine (szHead_any a _ _ ha (by decide) (by decide)).mono ?_
    rintro e w2 ⟨rfl, h1⟩
    replace K0 := K0.ext h1
    replace K1 := K1.ext h1
    replace he := he.next h1
    clear h1
    clear r0 m0 r1 m1
    obtain ⟨r0, m0⟩ := K0.rules
    obtain ⟨r1, m1⟩ := K1.rules
    go_wp2_with fail
    refine (szHead_any b _ _ hb (by omega) (by omega)).mono ?_
    rintro e w3 ⟨rfl, h1⟩
    replace K0 := K0.ext h1
    replace K1 := K1.ext h1
    replace he := he.next h1
    clear h1
    clear r0 m0 r1 m1
    obtain ⟨r0, m0⟩ := K0.rules
    obtain ⟨r1, m1⟩ := K1.rules
    go_wp2_with fail
    go_ret
    exact ⟨rfl, he⟩
  have u1 : szL b.lens (szL a.lens 1048576) ≤ 1048576 := szL_upto (by exact u0) c1
  go_enter Try.func6, Try.ntmps6
  obtain ⟨r0, m0⟩ := K0.rules
  obtain ⟨r1, m1⟩ := K1.rules
  go_wp2_with fail
  obtain ⟨g, hg⟩ : ∃ g, g = w.heap.size := ⟨_, rfl⟩
  rw [← hg] at K0 K1
  rw [← hg]
  clear hg
  clear r0 m0 r1 m1
  obtain ⟨r0, m0⟩ := K0.rules
  obtain ⟨r1, m1⟩ := K1.rules
  refine (szHead_any a _ _ ha (by decide) (by decide)).mono ?_
  rintro e w4 ⟨rfl, h1⟩
  replace K0 := K0.ext h1
  replace K1 := K1.ext h1
  replace he := he.next h1
  clear h1
  clear r0 m0 r1 m1
  obtain ⟨r0, m0⟩ := K0.rules
  obtain ⟨r1, m1⟩ := K1.rules
  go_wp2_with fail
  refine (szHead_any b _ _ hb (by omega) (by omega)).mono ?_
  rintro e w5 ⟨rfl, h1⟩
  replace K0 := K0.ext h1
  replace K1 := K1.ext h1
  replace he := he.next h1
  clear h1
  clear r0 m0 r1 m1
  obtain ⟨r0, m0⟩ := K0.rules
  obtain ⟨r1, m1⟩ := K1.rules
  go_wp2_with fail
  go_region_held3 (fun w' => w'.cell? ⟨g, 0, none⟩ = some (.int .i64 a.number) ∧ w'.cell? ⟨g, 1, none⟩ = some (.int .i64 a.size) ∧ w'.cell? ⟨g, 2, none⟩ = some (.string a.root) ∧ w'.cell? ⟨g, 3, none⟩ = some (.int .i64 a.taken) ∧ w'.cell? ⟨g, 4, none⟩ = some (.string a.takenRoot) ∧ w'.cell? ⟨g + 1, 0, none⟩ = some (.int .i64 b.number) ∧ w'.cell? ⟨g + 1, 1, none⟩ = some (.int .i64 b.size) ∧ w'.cell? ⟨g + 1, 2, none⟩ = some (.string b.root) ∧ w'.cell? ⟨g + 1, 3, none⟩ = some (.int .i64 b.taken) ∧ w'.cell? ⟨g + 1, 4, none⟩ = some (.string b.takenRoot) ∧ Blk w' g 33 #[.int .i64 a.number, .int .i64 a.size, .string a.root, .int .i64 a.taken, .string a.takenRoot] ∧ Blk w' (g + 1) 33 #[.int .i64 b.number, .int .i64 b.size, .string b.root, .int .i64 b.taken, .string b.takenRoot] ∧ Ext w w')
    (first | exact ⟨r0 0, r0 1, r0 2, r0 3, r0 4, r1 0, r1 1, r1 2, r1 3, r1 4, K0.drew, K1.drew, he.drew⟩ | (go_split_ands; refine ⟨?_, ?_, ?_, ?_, ?_, ?_, ?_, ?_, ?_, ?_, ?_, ?_, ?_⟩ <;> assumption) | (go_split_ands; have N0 := Blk.ext (g := g) (by assumption) h1; have N1 := Blk.ext (g := g + 1) (by assumption) h1; exact ⟨N0.cell 0, N0.cell 1, N0.cell 2, N0.cell 3, N0.cell 4, N1.cell 0, N1.cell 1, N1.cell 2, N1.cell 3, N1.cell 4, N0, N1, Ext.next (by assumption) h1⟩))
    (first | (go_at_call_of 26 (.agg #[.int .i64 a.number, .int .i64 a.size, .string a.root, .int .i64 a.taken, .string a.takenRoot] : Value); refine (toHead_any a _).mono ?_; rintro e w' ⟨rfl, h1⟩) | (go_at_call_of 26 (.agg #[.int .i64 b.number, .int .i64 b.size, .string b.root, .int .i64 b.taken, .string b.takenRoot] : Value); refine (toHead_any b _).mono ?_; rintro e w' ⟨rfl, h1⟩) | (go_at_call 25; refine (specCompareHeads_any n a b _ ha hb).mono ?_; rintro e w' ⟨rfl, h1⟩))
  all_goals
    go_split_ands
    clear r0 m0 K0 r1 m1 K1 he
    have L0 : Blk w' g 33 #[.int .i64 a.number, .int .i64 a.size, .string a.root, .int .i64 a.taken, .string a.takenRoot] := by assumption
    have L1 : Blk w' (g + 1) 33 #[.int .i64 b.number, .int .i64 b.size, .string b.root, .int .i64 b.taken, .string b.takenRoot] := by assumption
    have le : Ext w w' := by assumption
    obtain ⟨r0, m0⟩ := L0.rules
    obtain ⟨r1, m1⟩ := L1.rules
    have K0 := L0
    have K1 := L1
    have he := le
    clear le L0 L1
    go_wp2_with fail
    go_region_held3 (fun w' => w'.cell? ⟨g, 0, none⟩ = some (.int .i64 a.number) ∧ w'.cell? ⟨g, 1, none⟩ = some (.int .i64 a.size) ∧ w'.cell? ⟨g, 2, none⟩ = some (.string a.root) ∧ w'.cell? ⟨g, 3, none⟩ = some (.int .i64 a.taken) ∧ w'.cell? ⟨g, 4, none⟩ = some (.string a.takenRoot) ∧ w'.cell? ⟨g + 1, 0, none⟩ = some (.int .i64 b.number) ∧ w'.cell? ⟨g + 1, 1, none⟩ = some (.int .i64 b.size) ∧ w'.cell? ⟨g + 1, 2, none⟩ = some (.string b.root) ∧ w'.cell? ⟨g + 1, 3, none⟩ = some (.int .i64 b.taken) ∧ w'.cell? ⟨g + 1, 4, none⟩ = some (.string b.takenRoot) ∧ Blk w' g 33 #[.int .i64 a.number, .int .i64 a.size, .string a.root, .int .i64 a.taken, .string a.takenRoot] ∧ Blk w' (g + 1) 33 #[.int .i64 b.number, .int .i64 b.size, .string b.root, .int .i64 b.taken, .string b.takenRoot] ∧ Ext w w')
      (first | exact ⟨r0 0, r0 1, r0 2, r0 3, r0 4, r1 0, r1 1, r1 2, r1 3, r1 4, K0.drew, K1.drew, he.drew⟩ | (go_split_ands; refine ⟨?_, ?_, ?_, ?_, ?_, ?_, ?_, ?_, ?_, ?_, ?_, ?_, ?_⟩ <;> assumption) | (go_split_ands; have N0 := Blk.ext (g := g) (by assumption) h1; have N1 := Blk.ext (g := g + 1) (by assumption) h1; exact ⟨N0.cell 0, N0.cell 1, N0.cell 2, N0.cell 3, N0.cell 4, N1.cell 0, N1.cell 1, N1.cell 2, N1.cell 3, N1.cell 4, N0, N1, Ext.next (by assumption) h1⟩))
      (first | (go_at_call_of 26 (.agg #[.int .i64 a.number, .int .i64 a.size, .string a.root, .int .i64 a.taken, .string a.takenRoot] : Value); refine (toHead_any a _).mono ?_; rintro e w' ⟨rfl, h1⟩) | (go_at_call_of 26 (.agg #[.int .i64 b.number, .int .i64 b.size, .string b.root, .int .i64 b.taken, .string b.takenRoot] : Value); refine (toHead_any b _).mono ?_; rintro e w' ⟨rfl, h1⟩) | (go_at_call 27; refine (implCompareHeads_any n a b _ ha hb).mono ?_; rintro e w' ⟨rfl, h1⟩))
  all_goals
    go_split_ands
    go_wp2_with fail
    go_ret
    exact ⟨rfl, by assumption⟩

set_option maxRecDepth 100000 in
theorem CompareHeads_holds : Rows.FnExactCompareHeadsSaid :=
  lawOver (p := Try.pinned) (c := Rows.fnExactCompareHeadsRow) (s := Rows.fnExactCompareHeadsSpec) 6 Try.f6 4
    own laidOut (by kernel_rfl) (by kernel_rfl) rfl rfl Try.underlying4
    (fun H ds h => by match ds, h with | [d0, d1, d2], _ => rfl)
    rfl rfl rfl rfl rfl rfl rfl ⟨rfl, rfl, rfl, rfl, rfl⟩ rfl rfl rfl rfl rfl (by kernel_rfl) Try.func6 (by kernel_rfl)
    (of_decide_eq_true (by kernel_rfl)) (by unfold Func.isWrapper; rw [if_neg (of_decide_eq_false (by kernel_rfl))]; exact ⟨rfl, rfl⟩)
    rfl rfl (fun _ _ => rfl) rfl rfl rfl rfl
    (fun os started H enc => ChangeSpec.witness6 (enc := enc) (C := Try.checked) false ⟨#[], #[.int .i64 0, .agg #[.int .i64 0, .int .i64 0, .string ⟨#[]⟩, .int .i64 0, .string ⟨#[]⟩], .agg #[.int .i64 0, .int .i64 0, .string ⟨#[]⟩, .int .i64 0, .string ⟨#[]⟩]], []⟩ 20 (by kernel_rfl) (by kernel_rfl) (by kernel_rfl) (by kernel_rfl))
    (fun W args h => by
      have hs := h.size
      obtain ⟨l⟩ := args
      match l, hs with
      | [v0, v1, v2], _ =>
        obtain ⟨base0, n0, o0, t0⟩ := h.arg 0 3 v0 rfl rfl
        obtain ⟨base1, n1, o1, t1⟩ := h.arg 1 33 v1 rfl rfl
        obtain ⟨base2, n2, o2, t2⟩ := h.arg 2 33 v2 rfl rfl
        obtain ⟨n, rfl⟩ := okWide_int Try.underlying3 o0
        obtain ⟨cs1, rfl, _⟩ := okWide_struct Try.underlying33 o1
        obtain ⟨a, e1, ha⟩ := HeadD.typed t1
        obtain rfl : cs1 = a.cells.toArray := by have h2 : cs1.toList = a.cells := e1; rw [← h2]
        obtain ⟨cs2, rfl, _⟩ := okWide_struct Try.underlying33 o2
        obtain ⟨b, e2, hb⟩ := HeadD.typed t2
        obtain rfl : cs2 = b.cells.toArray := by have h2 : cs2.toList = b.cells := e2; rw [← h2]
        exact lawCompareHeads_walk n a b W ha hb)
#print axioms CompareHeads_holds
end Go.Proofs.Ytaicjimppcledaa

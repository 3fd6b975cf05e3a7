/-
  FollowsB: No condition.
-/
import Derived.Test.YtlgdghpnfclgpaaGreatBroker1
namespace Go.Proofs.YtlgdghpnfclgpaaGreat
set_option maxHeartbeats 4000000
set_option maxRecDepth 100000
set_option linter.unusedSimpArgs false
open Go.RowKit
set_option linter.unusedVariables false
theorem followsB_n {n : Int} {a b : HeadD} (h : decide (b.number ≤ a.number) = true) : followsB n a b = false := by
 have := of_decide_eq_true h
 rw [followsB, decide_eq_false (show ¬ a.number < b.number by omega)]; simp
theorem followsB_s {n : Int} {a b : HeadD} (h : decide (b.size < a.size) = true) : followsB n a b = false := by
 have := of_decide_eq_true h
 rw [followsB, decide_eq_false (show ¬ a.size ≤ b.size by omega)]; simp
theorem followsB_t {n : Int} {a b : HeadD} (h : decide (b.taken < a.taken) = true) : followsB n a b = false := by
 have := of_decide_eq_true h
 rw [followsB, decide_eq_false (show ¬ a.taken ≤ b.taken by omega)]; simp
theorem followsB_p {n : Int} {a b : HeadD} (b1 : headOk n a = true) (b2 : headOk n b = true) (h1 : decide (b.number ≤ a.number) = false) (h2 : decide (b.size < a.size) = false) (h3 : decide (b.taken < a.taken) = false) : followsB n a b = !parted a b := by
 have := of_decide_eq_false h1
 have := of_decide_eq_false h2
 have := of_decide_eq_false h3
 rw [followsB, b1, b2, decide_eq_true (show a.number < b.number by omega), decide_eq_true (show a.size ≤ b.size by omega), decide_eq_true (show a.taken ≤ b.taken by omega)]; simp
theorem implFollows_any (n : Int) (a b : HeadD) (w : World) : Calls Tryz.prog 200 #[.int .i64 n, .agg #[.int .i64 a.number, .int .i64 a.size, .string a.root, .int .i64 a.taken, .string a.takenRoot], .agg #[.int .i64 b.number, .int .i64 b.size, .string b.root, .int .i64 b.taken, .string b.takenRoot]] w fun e w' => e = .returned (.bool (followsB n a b)) ∧ Ext w w' := by
 obtain ⟨B0, B1, he⟩ := two_blks w #[.int .i64 a.number, .int .i64 a.size, .string a.root, .int .i64 a.taken, .string a.takenRoot] #[.int .i64 b.number, .int .i64 b.size, .string b.root, .int .i64 b.taken, .string b.takenRoot] 55 55
 have K0 := hU B0; have K1 := hU B1; have He := hU he
 obtain ⟨r0, m0⟩ := B0.rules
 obtain ⟨r1, m1⟩ := B1.rules
 clear B0 B1 he
 obtain ⟨fin, hfin⟩ : ∃ fin, fin = followsB n a b := ⟨_, rfl⟩
 rw [← hfin]
 cases b1 : headOk n a
 · have E := hU (show fin = false by rw [hfin]; simp [followsB, b1])
   clear hfin
   go_enter Tryz.func200, Tryz.ntmps200
   go_wp2_with fail
   obtain ⟨g, hg⟩ : ∃ g, g = w.heap.size := ⟨_, rfl⟩
   rw [← hg] at K0 K1
   rw [← hg]
   clear hg r0 m0 r1 m1
   have C0 := K0.out; have C1 := K1.out; have he := He.out
   clear K0 K1 He
   refine (implHeadOk_any n a _).mono ?_
   rintro e w1 ⟨rfl, h1⟩
   replace C0 := C0.ext h1; replace C1 := C1.ext h1; replace he := he.next h1; clear h1
   obtain ⟨r0, m0⟩ := C0.rules
   obtain ⟨r1, m1⟩ := C1.rules
   go_wp2_with fail
   go_ret
   exact ⟨ret_bool E.out.symm, he⟩
 cases b2 : headOk n b
 · have E := hU (show fin = false by rw [hfin]; simp [followsB, b2])
   clear hfin
   go_enter Tryz.func200, Tryz.ntmps200
   go_wp2_with fail
   obtain ⟨g, hg⟩ : ∃ g, g = w.heap.size := ⟨_, rfl⟩
   rw [← hg] at K0 K1
   rw [← hg]
   clear hg r0 m0 r1 m1
   have C0 := K0.out; have C1 := K1.out; have he := He.out
   clear K0 K1 He
   refine (implHeadOk_any n a _).mono ?_
   rintro e w2 ⟨rfl, h1⟩
   replace C0 := C0.ext h1; replace C1 := C1.ext h1; replace he := he.next h1; clear h1
   obtain ⟨r0, m0⟩ := C0.rules
   obtain ⟨r1, m1⟩ := C1.rules
   go_wp2_with fail
   refine (implHeadOk_any n b _).mono ?_
   rintro e w3 ⟨rfl, h1⟩
   replace C0 := C0.ext h1; replace C1 := C1.ext h1; replace he := he.next h1; clear h1
   clear r0 m0 r1 m1
   obtain ⟨r0, m0⟩ := C0.rules
   obtain ⟨r1, m1⟩ := C1.rules
   go_wp2_with fail
   go_ret
   exact ⟨ret_bool E.out.symm, he⟩
 cases d1 : decide (b.number ≤ a.number)
 case true =>
  have E := hU (show fin = false by rw [hfin]; exact followsB_n d1)
  clear hfin
  go_enter Tryz.func200, Tryz.ntmps200
  go_wp2_with fail
  obtain ⟨g, hg⟩ : ∃ g, g = w.heap.size := ⟨_, rfl⟩
  rw [← hg] at K0 K1
  rw [← hg]
  clear hg r0 m0 r1 m1
  have C0 := K0.out; have C1 := K1.out; have he := He.out
  clear K0 K1 He
  refine (implHeadOk_any n a _).mono ?_
  rintro e w4 ⟨rfl, h1⟩
  replace C0 := C0.ext h1; replace C1 := C1.ext h1; replace he := he.next h1; clear h1
  obtain ⟨r0, m0⟩ := C0.rules
  obtain ⟨r1, m1⟩ := C1.rules
  go_wp2_with fail
  refine (implHeadOk_any n b _).mono ?_
  rintro e w5 ⟨rfl, h1⟩
  replace C0 := C0.ext h1; replace C1 := C1.ext h1; replace he := he.next h1; clear h1
  clear r0 m0 r1 m1
  obtain ⟨r0, m0⟩ := C0.rules
  obtain ⟨r1, m1⟩ := C1.rules
  go_wp2_with fail
  go_ret
  exact ⟨ret_bool E.out.symm, he⟩
 cases d2 : decide (b.size < a.size)
 case true =>
  have E := hU (show fin = false by rw [hfin]; exact followsB_s d2)
  clear hfin
  go_enter Tryz.func200, Tryz.ntmps200
  go_wp2_with fail
  obtain ⟨g, hg⟩ : ∃ g, g = w.heap.size := ⟨_, rfl⟩
  rw [← hg] at K0 K1
  rw [← hg]
  clear hg r0 m0 r1 m1
  have C0 := K0.out; have C1 := K1.out; have he := He.out
  clear K0 K1 He
  refine (implHeadOk_any n a _).mono ?_
  rintro e w6 ⟨rfl, h1⟩
  replace C0 := C0.ext h1; replace C1 := C1.ext h1; replace he := he.next h1; clear h1
  obtain ⟨r0, m0⟩ := C0.rules
  obtain ⟨r1, m1⟩ := C1.rules
  go_wp2_with fail
  refine (implHeadOk_any n b _).mono ?_
  rintro e w7 ⟨rfl, h1⟩
  replace C0 := C0.ext h1; replace C1 := C1.ext h1; replace he := he.next h1; clear h1
  clear r0 m0 r1 m1
  obtain ⟨r0, m0⟩ := C0.rules
  obtain ⟨r1, m1⟩ := C1.rules
  go_wp2_with fail
  go_ret
  exact ⟨ret_bool E.out.symm, he⟩
 cases d3 : decide (b.taken < a.taken)
 case true =>
  have E := hU (show fin = false by rw [hfin]; exact followsB_t d3)
  clear hfin
  go_enter Tryz.func200, Tryz.ntmps200
  go_wp2_with fail
  obtain ⟨g, hg⟩ : ∃ g, g = w.heap.size := ⟨_, rfl⟩
  rw [← hg] at K0 K1
  rw [← hg]
  clear hg r0 m0 r1 m1
  have C0 := K0.out; have C1 := K1.out; have he := He.out
  clear K0 K1 He
  refine (implHeadOk_any n a _).mono ?_
  rintro e w8 ⟨rfl, h1⟩
  replace C0 := C0.ext h1; replace C1 := C1.ext h1; replace he := he.next h1; clear h1
  obtain ⟨r0, m0⟩ := C0.rules
  obtain ⟨r1, m1⟩ := C1.rules
  go_wp2_with fail
  refine (implHeadOk_any n b _).mono ?_
  rintro e w9 ⟨rfl, h1⟩
  replace C0 := C0.ext h1; replace C1 := C1.ext h1; replace he := he.next h1; clear h1
  clear r0 m0 r1 m1
  obtain ⟨r0, m0⟩ := C0.rules
  obtain ⟨r1, m1⟩ := C1.rules
  go_wp2_with fail
  go_ret
  exact ⟨ret_bool E.out.symm, he⟩
 have E := hU (show fin = !parted a b by rw [hfin]; exact followsB_p b1 b2 d1 d2 d3)
 clear hfin
 go_enter Tryz.func200, Tryz.ntmps200
 go_wp2_with fail
 obtain ⟨g, hg⟩ : ∃ g, g = w.heap.size := ⟨_, rfl⟩
 rw [← hg] at K0 K1
 rw [← hg]
 clear hg r0 m0 r1 m1
 have C0 := K0.out; have C1 := K1.out; have he := He.out
 clear K0 K1 He
 refine (implHeadOk_any n a _).mono ?_
 rintro e w10 ⟨rfl, h1⟩
 replace C0 := C0.ext h1; replace C1 := C1.ext h1; replace he := he.next h1; clear h1
 obtain ⟨r0, m0⟩ := C0.rules
 obtain ⟨r1, m1⟩ := C1.rules
 go_wp2_with fail
 refine (implHeadOk_any n b _).mono ?_
 rintro e w11 ⟨rfl, h1⟩
 replace C0 := C0.ext h1; replace C1 := C1.ext h1; replace he := he.next h1; clear h1
 clear r0 m0 r1 m1
 obtain ⟨r0, m0⟩ := C0.rules
 obtain ⟨r1, m1⟩ := C1.rules
 go_wp2_with fail
 refine (parted_any a b _).mono ?_
 rintro e w12 ⟨rfl, h1⟩
 replace C0 := C0.ext h1; replace C1 := C1.ext h1; replace he := he.next h1; clear h1
 clear r0 m0 r1 m1
 obtain ⟨r0, m0⟩ := C0.rules
 obtain ⟨r1, m1⟩ := C1.rules
 go_wp2_with fail
 go_ret
 exact ⟨ret_bool E.out.symm, he⟩
theorem specFollows_any (n : Int) (a b : HeadD) (w : World) : Calls Tryz.prog 169 #[.int .i64 n, .agg #[.int .i64 a.number, .int .i64 a.size, .string a.root, .int .i64 a.taken, .string a.takenRoot], .agg #[.int .i64 b.number, .int .i64 b.size, .string b.root, .int .i64 b.taken, .string b.takenRoot]] w fun e w' => e = .returned (.bool (followsB n a b)) ∧ Ext w w' := by
 obtain ⟨B0, B1, he⟩ := two_blks w #[.int .i64 a.number, .int .i64 a.size, .string a.root, .int .i64 a.taken, .string a.takenRoot] #[.int .i64 b.number, .int .i64 b.size, .string b.root, .int .i64 b.taken, .string b.takenRoot] 55 55
 have K0 := hU B0; have K1 := hU B1; have He := hU he
 obtain ⟨r0, m0⟩ := B0.rules
 obtain ⟨r1, m1⟩ := B1.rules
 clear B0 B1 he
 obtain ⟨fin, hfin⟩ : ∃ fin, fin = followsB n a b := ⟨_, rfl⟩
 rw [← hfin]
 cases b1 : headOk n a
 · have E := hU (show fin = false by rw [hfin]; simp [followsB, b1])
   clear hfin
   go_enter Tryz.func169, Tryz.ntmps169
   go_wp2_with fail
   obtain ⟨g, hg⟩ : ∃ g, g = w.heap.size := ⟨_, rfl⟩
   rw [← hg] at K0 K1
   rw [← hg]
   clear hg r0 m0 r1 m1
   have C0 := K0.out; have C1 := K1.out; have he := He.out
   clear K0 K1 He
   refine (specHeadOk_any n a _).mono ?_
   rintro e w13 ⟨rfl, h1⟩
   replace C0 := C0.ext h1; replace C1 := C1.ext h1; replace he := he.next h1; clear h1
   obtain ⟨r0, m0⟩ := C0.rules
   obtain ⟨r1, m1⟩ := C1.rules
   go_wp2_with fail
   go_ret
   exact ⟨ret_bool E.out.symm, he⟩
 cases b2 : headOk n b
 · have E := hU (show fin = false by rw [hfin]; simp [followsB, b2])
   clear hfin
   go_enter Tryz.func169, Tryz.ntmps169
   go_wp2_with fail
   obtain ⟨g, hg⟩ : ∃ g, g = w.heap.size := ⟨_, rfl⟩
   rw [← hg] at K0 K1
   rw [← hg]
   clear hg r0 m0 r1 m1
   have C0 := K0.out; have C1 := K1.out; have he := He.out
   clear K0 K1 He
   refine (specHeadOk_any n a _).mono ?_
   rintro e w14 ⟨rfl, h1⟩
   replace C0 := C0.ext h1; replace C1 := C1.ext h1; replace he := he.next h1; clear h1
   obtain ⟨r0, m0⟩ := C0.rules
   obtain ⟨r1, m1⟩ := C1.rules
   go_wp2_with fail
   refine (specHeadOk_any n b _).mono ?_
   rintro e w15 ⟨rfl, h1⟩
   replace C0 := C0.ext h1; replace C1 := C1.ext h1; replace he := he.next h1; clear h1
   clear r0 m0 r1 m1
   obtain ⟨r0, m0⟩ := C0.rules
   obtain ⟨r1, m1⟩ := C1.rules
   go_wp2_with fail
   go_ret
   exact ⟨ret_bool E.out.symm, he⟩
 cases d1 : decide (b.number ≤ a.number)
 case true =>
  have E := hU (show fin = false by rw [hfin]; exact followsB_n d1)
  clear hfin
  go_enter Tryz.func169, Tryz.ntmps169
  go_wp2_with fail
  obtain ⟨g, hg⟩ : ∃ g, g = w.heap.size := ⟨_, rfl⟩
  rw [← hg] at K0 K1
  rw [← hg]
  clear hg r0 m0 r1 m1
  have C0 := K0.out; have C1 := K1.out; have he := He.out
  clear K0 K1 He
  refine (specHeadOk_any n a _).mono ?_
  rintro e w16 ⟨rfl, h1⟩
  replace C0 := C0.ext h1; replace C1 := C1.ext h1; replace he := he.next h1; clear h1
  obtain ⟨r0, m0⟩ := C0.rules
  obtain ⟨r1, m1⟩ := C1.rules
  go_wp2_with fail
  refine (specHeadOk_any n b _).mono ?_
  rintro e w17 ⟨rfl, h1⟩
  replace C0 := C0.ext h1; replace C1 := C1.ext h1; replace he := he.next h1; clear h1
  clear r0 m0 r1 m1
  obtain ⟨r0, m0⟩ := C0.rules
  obtain ⟨r1, m1⟩ := C1.rules
  go_wp2_with fail
  go_ret
  exact ⟨ret_bool E.out.symm, he⟩
 cases d2 : decide (b.size < a.size)
 case true =>
  have E := hU (show fin = false by rw [hfin]; exact followsB_s d2)
  clear hfin
  go_enter Tryz.func169, Tryz.ntmps169
  go_wp2_with fail
  obtain ⟨g, hg⟩ : ∃ g, g = w.heap.size := ⟨_, rfl⟩
  rw [← hg] at K0 K1
  rw [← hg]
  clear hg r0 m0 r1 m1
  have C0 := K0.out; have C1 := K1.out; have he := He.out
  clear K0 K1 He
  refine (specHeadOk_any n a _).mono ?_
  rintro e w18 ⟨rfl, h1⟩
  replace C0 := C0.ext h1; replace C1 := C1.ext h1; replace he := he.next h1; clear h1
  obtain ⟨r0, m0⟩ := C0.rules
  obtain ⟨r1, m1⟩ := C1.rules
  go_wp2_with fail
  refine (specHeadOk_any n b _).mono ?_
  rintro e w19 ⟨rfl, h1⟩
  replace C0 := C0.ext h1; replace C1 := C1.ext h1; replace he := he.next h1; clear h1
  clear r0 m0 r1 m1
  obtain ⟨r0, m0⟩ := C0.rules
  obtain ⟨r1, m1⟩ := C1.rules
  go_wp2_with fail
  go_ret
  exact ⟨ret_bool E.out.symm, he⟩
 cases d3 : decide (b.taken < a.taken)
 case true =>
  have E := hU (show fin = false by rw [hfin]; exact followsB_t d3)
  clear hfin
  go_enter Tryz.func169, Tryz.ntmps169
  go_wp2_with fail
  obtain ⟨g, hg⟩ : ∃ g, g = w.heap.size := ⟨_, rfl⟩
  rw [← hg] at K0 K1
  rw [← hg]
  clear hg r0 m0 r1 m1
  have C0 := K0.out; have C1 := K1.out; have he := He.out
  clear K0 K1 He
  refine (specHeadOk_any n a _).mono ?_
  rintro e w20 ⟨rfl, h1⟩
  replace C0 := C0.ext h1; replace C1 := C1.ext h1; replace he := he.next h1; clear h1
  obtain ⟨r0, m0⟩ := C0.rules
  obtain ⟨r1, m1⟩ := C1.rules
  go_wp2_with fail
  refine (specHeadOk_any n b _).mono ?_
  rintro e w21 ⟨rfl, h1⟩
  replace C0 := C0.ext h1; replace C1 := C1.ext h1; replace he := he.next h1; clear h1
  clear r0 m0 r1 m1
  obtain ⟨r0, m0⟩ := C0.rules
  obtain ⟨r1, m1⟩ := C1.rules
  go_wp2_with fail
  go_ret
  exact ⟨ret_bool E.out.symm, he⟩
 have E := hU (show fin = !(((a.size == b.size) && !(a.root.toList == b.root.toList)) || ((a.taken == b.taken) && !(a.takenRoot.toList == b.takenRoot.toList))) by rw [hfin, followsB_p b1 b2 d1 d2 d3]; rfl)
 clear hfin
 go_enter Tryz.func169, Tryz.ntmps169
 go_wp2_with fail
 obtain ⟨g, hg⟩ : ∃ g, g = w.heap.size := ⟨_, rfl⟩
 rw [← hg] at K0 K1
 rw [← hg]
 clear hg r0 m0 r1 m1
 have C0 := K0.out; have C1 := K1.out; have he := He.out
 clear K0 K1 He
 refine (specHeadOk_any n a _).mono ?_
 rintro e w22 ⟨rfl, h1⟩
 replace C0 := C0.ext h1; replace C1 := C1.ext h1; replace he := he.next h1; clear h1
 obtain ⟨r0, m0⟩ := C0.rules
 obtain ⟨r1, m1⟩ := C1.rules
 go_wp2_with fail
 refine (specHeadOk_any n b _).mono ?_
 rintro e w23 ⟨rfl, h1⟩
 replace C0 := C0.ext h1; replace C1 := C1.ext h1; replace he := he.next h1; clear h1
 clear r0 m0 r1 m1
 obtain ⟨r0, m0⟩ := C0.rules
 obtain ⟨r1, m1⟩ := C1.rules
 by_cases x1 : a.size = b.size <;> cases c2 : (a.root.toList == b.root.toList) <;> by_cases x3 : a.taken = b.taken <;> cases c4 : (a.takenRoot.toList == b.takenRoot.toList)
 all_goals
  first | have y1 : (a.size == b.size) = true := beq_iff_eq.2 x1 | have y1 : (a.size == b.size) = false := beq_false_of_ne x1
  first | have y3 : (a.taken == b.taken) = true := beq_iff_eq.2 x3 | have y3 : (a.taken == b.taken) = false := beq_false_of_ne x3
  have E2 := hU (show fin = _ by rw [E.out, y1, c2, y3, c4])
  clear E y1 y3
  go_wp2_with fail
  go_ret
  exact ⟨ret_bool E2.out.symm, he⟩
end Go.Proofs.YtlgdghpnfclgpaaGreat

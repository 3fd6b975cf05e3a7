/-
  Forks of heads, and comparing them: walks. No condition.
-/
import Derived.Test.YteaphajagmbllaaHeadOps
namespace Go.Proofs.Yteaphajagmbllaa
open Go.RowKit
set_option linter.unusedVariables false

def parted (a b : HeadD) : Bool := ((a.size == b.size) && !(a.root.toList == b.root.toList)) || ((a.taken == b.taken) && !(a.takenRoot.toList == b.takenRoot.toList))
theorem nes_of_beq {a b : List UInt8} {p : Bool} (h : (a == b) = p) : (a != b) = !p := by rw [bne, h]
def forkB (n : Int) (a b : HeadD) : Bool := headOk n a && headOk n b && parted a b
set_option maxHeartbeats 2000000 in
theorem parted_any (a b : HeadD) (w : World) : Calls Try.prog 56 #[.agg #[.int .i64 a.number, .int .i64 a.size, .string a.root, .int .i64 a.taken, .string a.takenRoot], .agg #[.int .i64 b.number, .int .i64 b.size, .string b.root, .int .i64 b.taken, .string b.takenRoot]] w fun e w' => e = .returned (.bool (parted a b)) ∧ Ext w w' := by
  have E := Lib.hid (show parted a b = (((a.size == b.size) && !(a.root.toList == b.root.toList)) || ((a.taken == b.taken) && !(a.takenRoot.toList == b.takenRoot.toList))) from rfl)
  cases c1 : (a.size == b.size) <;> cases c2 : (a.root.toList == b.root.toList) <;> cases c3 : (a.taken == b.taken) <;> cases c4 : (a.takenRoot.toList == b.takenRoot.toList)
  all_goals
    have E2 := Lib.hid (show parted a b = _ by rw [E.out, c1, c2, c3, c4])
    have c2' := nes_of_beq c2
    have c4' := nes_of_beq c4
    clear E
    go_enter Try.func56, Try.ntmps56
    go_wp2_with fail
    go_ret
    exact ⟨ret_bool E2.out.symm, by go_grown⟩
/-- GEN -/
def genMark : Nat := 0
set_option maxHeartbeats 4000000 in
set_option maxRecDepth 100000 in
theorem implForkOf_any (n : Int) (a b : HeadD) (w : World) (ha : a.Ok) (hb : b.Ok) : Calls Try.prog 16 #[.int .i64 n, .agg #[.int .i64 a.number, .int .i64 a.size, .string a.root, .int .i64 a.taken, .string a.takenRoot], .agg #[.int .i64 b.number, .int .i64 b.size, .string b.root, .int .i64 b.taken, .string b.takenRoot]] w fun e w' => e = .returned (.bool (forkB n a b)) ∧ Ext w w' := by
  obtain ⟨B0, B1, he⟩ := two_blks w #[.int .i64 a.number, .int .i64 a.size, .string a.root, .int .i64 a.taken, .string a.takenRoot] #[.int .i64 b.number, .int .i64 b.size, .string b.root, .int .i64 b.taken, .string b.takenRoot] 42 42
  have K0 := Lib.hid B0; have K1 := Lib.hid B1; have He := Lib.hid he
  obtain ⟨r0, m0⟩ := B0.rules
  obtain ⟨r1, m1⟩ := B1.rules
  clear B0 B1 he
  cases b1 : headOk n a
  · have E := Lib.hid (show forkB n a b = false by simp [forkB, b1])
    go_enter Try.func16, Try.ntmps16
    go_wp2_with fail
    obtain ⟨g, hg⟩ : ∃ g, g = w.heap.size := ⟨_, rfl⟩
    rw [← hg] at K0 K1
    rw [← hg]
    clear hg r0 m0 r1 m1
    have C0 := K0.out; have C1 := K1.out; have he := He.out
    clear K0 K1 He
    refine (implHeadOk_any n a _).mono ?_
    rintro e w1 ⟨rfl, h1⟩
    replace C0 := C0.ext h1; replace C1 := C1.ext h1; replace he := he.next h1; clear h1
    obtain ⟨r0, m0⟩ := C0.rules
    obtain ⟨r1, m1⟩ := C1.rules
    go_wp2_with fail
    go_ret
    exact ⟨ret_bool E.out.symm, he⟩
  cases b2 : headOk n b
  · have E := Lib.hid (show forkB n a b = false by simp [forkB, b2])
    go_enter Try.func16, Try.ntmps16
    go_wp2_with fail
    obtain ⟨g, hg⟩ : ∃ g, g = w.heap.size := ⟨_, rfl⟩
    rw [← hg] at K0 K1
    rw [← hg]
    clear hg r0 m0 r1 m1
    have C0 := K0.out; have C1 := K1.out; have he := He.out
    clear K0 K1 He
    refine (implHeadOk_any n a _).mono ?_
    rintro e w2 ⟨rfl, h1⟩
    replace C0 := C0.ext h1; replace C1 := C1.ext h1; replace he := he.next h1; clear h1
    obtain ⟨r0, m0⟩ := C0.rules
    obtain ⟨r1, m1⟩ := C1.rules
    go_wp2_with fail
    refine (implHeadOk_any n b _).mono ?_
    rintro e w3 ⟨rfl, h1⟩
    replace C0 := C0.ext h1; replace C1 := C1.ext h1; replace he := he.next h1; clear h1
    clear r0 m0 r1 m1
    obtain ⟨r0, m0⟩ := C0.rules
    obtain ⟨r1, m1⟩ := C1.rules
    go_wp2_with fail
    go_ret
    exact ⟨ret_bool E.out.symm, he⟩
  have E := Lib.hid (show forkB n a b = parted a b by simp only [forkB, b1, b2, Bool.true_and])
  go_enter Try.func16, Try.ntmps16
  go_wp2_with fail
  obtain ⟨g, hg⟩ : ∃ g, g = w.heap.size := ⟨_, rfl⟩
  rw [← hg] at K0 K1
  rw [← hg]
  clear hg r0 m0 r1 m1
  have C0 := K0.out; have C1 := K1.out; have he := He.out
  clear K0 K1 He
  refine (implHeadOk_any n a _).mono ?_
  rintro e w4 ⟨rfl, h1⟩
  replace C0 := C0.ext h1; replace C1 := C1.ext h1; replace he := he.next h1; clear h1
  obtain ⟨r0, m0⟩ := C0.rules
  obtain ⟨r1, m1⟩ := C1.rules
  go_wp2_with fail
  refine (implHeadOk_any n b _).mono ?_
  rintro e w5 ⟨rfl, h1⟩
  replace C0 := C0.ext h1; replace C1 := C1.ext h1; replace he := he.next h1; clear h1
  clear r0 m0 r1 m1
  obtain ⟨r0, m0⟩ := C0.rules
  obtain ⟨r1, m1⟩ := C1.rules
  go_wp2_with fail
  refine (parted_any a b _).mono ?_
  rintro e w6 ⟨rfl, h1⟩
  replace C0 := C0.ext h1; replace C1 := C1.ext h1; replace he := he.next h1; clear h1
  clear r0 m0 r1 m1
  obtain ⟨r0, m0⟩ := C0.rules
  obtain ⟨r1, m1⟩ := C1.rules
  go_wp2_with fail
  go_ret
  exact ⟨ret_bool E.out.symm, he⟩
set_option maxHeartbeats 4000000 in
set_option maxRecDepth 100000 in
theorem specForkOf_any (n : Int) (a b : HeadD) (w : World) (ha : a.Ok) (hb : b.Ok) : Calls Try.prog 19 #[.int .i64 n, .agg #[.int .i64 a.number, .int .i64 a.size, .string a.root, .int .i64 a.taken, .string a.takenRoot], .agg #[.int .i64 b.number, .int .i64 b.size, .string b.root, .int .i64 b.taken, .string b.takenRoot]] w fun e w' => e = .returned (.bool (forkB n a b)) ∧ Ext w w' := by
  obtain ⟨B0, B1, he⟩ := two_blks w #[.int .i64 a.number, .int .i64 a.size, .string a.root, .int .i64 a.taken, .string a.takenRoot] #[.int .i64 b.number, .int .i64 b.size, .string b.root, .int .i64 b.taken, .string b.takenRoot] 42 42
  have K0 := Lib.hid B0; have K1 := Lib.hid B1; have He := Lib.hid he
  obtain ⟨r0, m0⟩ := B0.rules
  obtain ⟨r1, m1⟩ := B1.rules
  clear B0 B1 he
  cases b1 : headOk n a
  · have E := Lib.hid (show forkB n a b = false by simp [forkB, b1])
    go_enter Try.func19, Try.ntmps19
    go_wp2_with fail
    obtain ⟨g, hg⟩ : ∃ g, g = w.heap.size := ⟨_, rfl⟩
    rw [← hg] at K0 K1
    rw [← hg]
    clear hg r0 m0 r1 m1
    have C0 := K0.out; have C1 := K1.out; have he := He.out
    clear K0 K1 He
    refine (specHeadOk_any n a _).mono ?_
    rintro e w7 ⟨rfl, h1⟩
    replace C0 := C0.ext h1; replace C1 := C1.ext h1; replace he := he.next h1; clear h1
    obtain ⟨r0, m0⟩ := C0.rules
    obtain ⟨r1, m1⟩ := C1.rules
    go_wp2_with fail
    go_ret
    exact ⟨ret_bool E.out.symm, he⟩
  cases b2 : headOk n b
  · have E := Lib.hid (show forkB n a b = false by simp [forkB, b2])
    go_enter Try.func19, Try.ntmps19
    go_wp2_with fail
    obtain ⟨g, hg⟩ : ∃ g, g = w.heap.size := ⟨_, rfl⟩
    rw [← hg] at K0 K1
    rw [← hg]
    clear hg r0 m0 r1 m1
    have C0 := K0.out; have C1 := K1.out; have he := He.out
    clear K0 K1 He
    refine (specHeadOk_any n a _).mono ?_
    rintro e w8 ⟨rfl, h1⟩
    replace C0 := C0.ext h1; replace C1 := C1.ext h1; replace he := he.next h1; clear h1
    obtain ⟨r0, m0⟩ := C0.rules
    obtain ⟨r1, m1⟩ := C1.rules
    go_wp2_with fail
    refine (specHeadOk_any n b _).mono ?_
    rintro e w9 ⟨rfl, h1⟩
    replace C0 := C0.ext h1; replace C1 := C1.ext h1; replace he := he.next h1; clear h1
    clear r0 m0 r1 m1
    obtain ⟨r0, m0⟩ := C0.rules
    obtain ⟨r1, m1⟩ := C1.rules
    go_wp2_with fail
    go_ret
    exact ⟨ret_bool E.out.symm, he⟩
  have E := Lib.hid (show forkB n a b = (((a.size == b.size) && !(a.root.toList == b.root.toList)) || ((a.taken == b.taken) && !(a.takenRoot.toList == b.takenRoot.toList))) by simp only [forkB, b1, b2, Bool.true_and]; rfl)
  obtain ⟨fin, hfin⟩ : ∃ fin, fin = forkB n a b := ⟨_, rfl⟩
  rw [← hfin]
  rw [← hfin] at E
  clear hfin
  go_enter Try.func19, Try.ntmps19
  go_wp2_with fail
  obtain ⟨g, hg⟩ : ∃ g, g = w.heap.size := ⟨_, rfl⟩
  rw [← hg] at K0 K1
  rw [← hg]
  clear hg r0 m0 r1 m1
  have C0 := K0.out; have C1 := K1.out; have he := He.out
  clear K0 K1 He
  refine (specHeadOk_any n a _).mono ?_
  rintro e w10 ⟨rfl, h1⟩
  replace C0 := C0.ext h1; replace C1 := C1.ext h1; replace he := he.next h1; clear h1
  obtain ⟨r0, m0⟩ := C0.rules
  obtain ⟨r1, m1⟩ := C1.rules
  go_wp2_with fail
  refine (specHeadOk_any n b _).mono ?_
  rintro e w11 ⟨rfl, h1⟩
  replace C0 := C0.ext h1; replace C1 := C1.ext h1; replace he := he.next h1; clear h1
  clear r0 m0 r1 m1
  obtain ⟨r0, m0⟩ := C0.rules
  obtain ⟨r1, m1⟩ := C1.rules
  cases c1 : (a.size == b.size) <;> cases c2 : (a.root.toList == b.root.toList) <;> cases c3 : (a.taken == b.taken) <;> cases c4 : (a.takenRoot.toList == b.takenRoot.toList)
  all_goals
    have E2 := Lib.hid (show fin = _ by rw [E.out, c1, c2, c3, c4])
    have c2' := nes_of_beq c2
    have c4' := nes_of_beq c4
    clear E
    go_wp2_with fail
    go_ret
    exact ⟨ret_bool E2.out.symm, he⟩
def compareI (n : Int) (a b : HeadD) : Int := if headOk n a = false then 5 else if headOk n b = false then 5 else if parted a b = true then 1 else if a.size = b.size ∧ a.taken = b.taken then 0 else if a.size ≤ b.size ∧ a.taken ≤ b.taken then 2 else if b.size ≤ a.size ∧ b.taken ≤ a.taken then 3 else 4
set_option maxHeartbeats 4000000 in
set_option maxRecDepth 100000 in
theorem implCompareHeads_any (n : Int) (a b : HeadD) (w : World) (ha : a.Ok) (hb : b.Ok) : Calls Try.prog 18 #[.int .i64 n, .agg #[.int .i64 a.number, .int .i64 a.size, .string a.root, .int .i64 a.taken, .string a.takenRoot], .agg #[.int .i64 b.number, .int .i64 b.size, .string b.root, .int .i64 b.taken, .string b.takenRoot]] w fun e w' => e = .returned (.int .i64 (compareI n a b)) ∧ Ext w w' := by
  obtain ⟨B0, B1, he⟩ := two_blks w #[.int .i64 a.number, .int .i64 a.size, .string a.root, .int .i64 a.taken, .string a.takenRoot] #[.int .i64 b.number, .int .i64 b.size, .string b.root, .int .i64 b.taken, .string b.takenRoot] 42 42
  have K0 := Lib.hid B0; have K1 := Lib.hid B1; have He := Lib.hid he
  obtain ⟨r0, m0⟩ := B0.rules
  obtain ⟨r1, m1⟩ := B1.rules
  clear B0 B1 he
  cases b1 : headOk n a
  · have E := Lib.hid (show compareI n a b = 5 by simp [compareI, b1])
    go_enter Try.func18, Try.ntmps18
    go_wp2_with fail
    obtain ⟨g, hg⟩ : ∃ g, g = w.heap.size := ⟨_, rfl⟩
    rw [← hg] at K0 K1
    rw [← hg]
    clear hg r0 m0 r1 m1
    have C0 := K0.out; have C1 := K1.out; have he := He.out
    clear K0 K1 He
    refine (implHeadOk_any n a _).mono ?_
    rintro e w12 ⟨rfl, h1⟩
    replace C0 := C0.ext h1; replace C1 := C1.ext h1; replace he := he.next h1; clear h1
    obtain ⟨r0, m0⟩ := C0.rules
    obtain ⟨r1, m1⟩ := C1.rules
    go_wp2_with fail
    go_ret
    exact ⟨ret_int E.out.symm, he⟩
  cases b2 : headOk n b
  · have E := Lib.hid (show compareI n a b = 5 by simp [compareI, b1, b2])
    go_enter Try.func18, Try.ntmps18
    go_wp2_with fail
    obtain ⟨g, hg⟩ : ∃ g, g = w.heap.size := ⟨_, rfl⟩
    rw [← hg] at K0 K1
    rw [← hg]
    clear hg r0 m0 r1 m1
    have C0 := K0.out; have C1 := K1.out; have he := He.out
    clear K0 K1 He
    refine (implHeadOk_any n a _).mono ?_
    rintro e w13 ⟨rfl, h1⟩
    replace C0 := C0.ext h1; replace C1 := C1.ext h1; replace he := he.next h1; clear h1
    obtain ⟨r0, m0⟩ := C0.rules
    obtain ⟨r1, m1⟩ := C1.rules
    go_wp2_with fail
    refine (implHeadOk_any n b _).mono ?_
    rintro e w14 ⟨rfl, h1⟩
    replace C0 := C0.ext h1; replace C1 := C1.ext h1; replace he := he.next h1; clear h1
    clear r0 m0 r1 m1
    obtain ⟨r0, m0⟩ := C0.rules
    obtain ⟨r1, m1⟩ := C1.rules
    go_wp2_with fail
    go_ret
    exact ⟨ret_int E.out.symm, he⟩
  cases b3 : parted a b
  case true =>
    have E := Lib.hid (show compareI n a b = 1 by simp [compareI, b1, b2, b3])
    go_enter Try.func18, Try.ntmps18
    go_wp2_with fail
    obtain ⟨g, hg⟩ : ∃ g, g = w.heap.size := ⟨_, rfl⟩
    rw [← hg] at K0 K1
    rw [← hg]
    clear hg r0 m0 r1 m1
    have C0 := K0.out; have C1 := K1.out; have he := He.out
    clear K0 K1 He
    refine (implHeadOk_any n a _).mono ?_
    rintro e w15 ⟨rfl, h1⟩
    replace C0 := C0.ext h1; replace C1 := C1.ext h1; replace he := he.next h1; clear h1
    obtain ⟨r0, m0⟩ := C0.rules
    obtain ⟨r1, m1⟩ := C1.rules
    go_wp2_with fail
    refine (implHeadOk_any n b _).mono ?_
    rintro e w16 ⟨rfl, h1⟩
    replace C0 := C0.ext h1; replace C1 := C1.ext h1; replace he := he.next h1; clear h1
    clear r0 m0 r1 m1
    obtain ⟨r0, m0⟩ := C0.rules
    obtain ⟨r1, m1⟩ := C1.rules
    go_wp2_with fail
    refine (parted_any a b _).mono ?_
    rintro e w17 ⟨rfl, h1⟩
    replace C0 := C0.ext h1; replace C1 := C1.ext h1; replace he := he.next h1; clear h1
    clear r0 m0 r1 m1
    obtain ⟨r0, m0⟩ := C0.rules
    obtain ⟨r1, m1⟩ := C1.rules
    go_wp2_with fail
    go_ret
    exact ⟨ret_int E.out.symm, he⟩
  have E0 := Lib.hid (show compareI n a b = (if a.size = b.size ∧ a.taken = b.taken then 0 else if a.size ≤ b.size ∧ a.taken ≤ b.taken then 2 else if b.size ≤ a.size ∧ b.taken ≤ a.taken then 3 else 4) by simp [compareI, b1, b2, b3])
  obtain ⟨fin, hfin⟩ : ∃ fin, fin = compareI n a b := ⟨_, rfl⟩
  rw [← hfin]
  rw [← hfin] at E0
  clear hfin
  go_enter Try.func18, Try.ntmps18
  go_wp2_with fail
  obtain ⟨g, hg⟩ : ∃ g, g = w.heap.size := ⟨_, rfl⟩
  rw [← hg] at K0 K1
  rw [← hg]
  clear hg r0 m0 r1 m1
  have C0 := K0.out; have C1 := K1.out; have he := He.out
  clear K0 K1 He
  refine (implHeadOk_any n a _).mono ?_
  rintro e w18 ⟨rfl, h1⟩
  replace C0 := C0.ext h1; replace C1 := C1.ext h1; replace he := he.next h1; clear h1
  obtain ⟨r0, m0⟩ := C0.rules
  obtain ⟨r1, m1⟩ := C1.rules
  go_wp2_with fail
  refine (implHeadOk_any n b _).mono ?_
  rintro e w19 ⟨rfl, h1⟩
  replace C0 := C0.ext h1; replace C1 := C1.ext h1; replace he := he.next h1; clear h1
  clear r0 m0 r1 m1
  obtain ⟨r0, m0⟩ := C0.rules
  obtain ⟨r1, m1⟩ := C1.rules
  go_wp2_with fail
  refine (parted_any a b _).mono ?_
  rintro e w20 ⟨rfl, h1⟩
  replace C0 := C0.ext h1; replace C1 := C1.ext h1; replace he := he.next h1; clear h1
  clear r0 m0 r1 m1
  obtain ⟨r0, m0⟩ := C0.rules
  obtain ⟨r1, m1⟩ := C1.rules
  rcases Int.lt_trichotomy a.size b.size with x1 | x1 | x1 <;> rcases Int.lt_trichotomy a.taken b.taken with x2 | x2 | x2
  all_goals
    have d1 : (a.size == b.size) = decide (a.size = b.size) := rfl
    have d2 : (a.taken == b.taken) = decide (a.taken = b.taken) := rfl
    first | rw [decide_eq_true x1] at d1 | rw [decide_eq_false (by omega)] at d1
    first | rw [decide_eq_true x2] at d2 | rw [decide_eq_false (by omega)] at d2
    first | have d3 : decide (a.size ≤ b.size) = true := decide_eq_true (by omega) | have d3 : decide (a.size ≤ b.size) = false := decide_eq_false (by omega)
    first | have d4 : decide (a.taken ≤ b.taken) = true := decide_eq_true (by omega) | have d4 : decide (a.taken ≤ b.taken) = false := decide_eq_false (by omega)
    first | have d5 : decide (b.size ≤ a.size) = true := decide_eq_true (by omega) | have d5 : decide (b.size ≤ a.size) = false := decide_eq_false (by omega)
    first | have d6 : decide (b.taken ≤ a.taken) = true := decide_eq_true (by omega) | have d6 : decide (b.taken ≤ a.taken) = false := decide_eq_false (by omega)
    have X1 := Lib.hid x1; clear x1
    have X2 := Lib.hid x2; clear x2
    go_wp2_with fail
    go_ret
    exact ⟨ret_int (by have y1 := X1.out; have y2 := X2.out; rw [E0.out]; (repeat first | rw [if_pos (by omega)] | rw [if_neg (by omega)])), he⟩
end Go.Proofs.Yteaphajagmbllaa

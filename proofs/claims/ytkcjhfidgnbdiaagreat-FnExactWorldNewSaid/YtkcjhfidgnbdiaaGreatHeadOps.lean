/-
  Heads: what is a right one, forks, comparing: walks. No condition.
-/
import Derived.Test.YtkcjhfidgnbdiaaGreatFrames
import Derived.Test.YtkcjhfidgnbdiaaGreatReread
namespace Go.Proofs.YtkcjhfidgnbdiaaGreat
set_option linter.unusedSimpArgs false
open Go.RowKit
set_option linter.unusedVariables false

def emptyR (n : Int) : ByteArray := digest n 5 ⟨#[]⟩
theorem emptyOk (n : Int) : digestOk n 5 ⟨#[]⟩ = inR n 1 32 := by
  have h1 : inR 5 0 255 = true := rfl
  have h2 : decide ((⟨#[]⟩ : ByteArray).size ≤ 4000) = true := rfl
  simp only [digestOk, h1, h2, Bool.and_true]
theorem specEmptyRoot_any (n : Int) (w : World) : Calls Tryz.prog 239 #[.int .i64 n] w fun e w' => e = .returned (.tuple #[.string (emptyR n), .bool (inR n 1 32)]) ∧ Ext w w' := by
  go_enter Tryz.func239, Tryz.ntmps239
  go_wp2_with fail
  refine (specDigest_any n 5 ⟨#[]⟩ _ (by decide)).mono ?_
  rintro e w1 ⟨rfl, h1⟩
  rw [emptyOk]
  go_wp2_with fail
  go_ret2
  exact ⟨rfl, h1⟩
theorem EmptyRoot_any (n : Int) (w : World) : Calls Tryz.prog 278 #[.int .i64 n] w fun e w' => e = .returned (.tuple #[.string (emptyR n), .bool (inR n 1 32)]) ∧ Ext w w' := by
  go_enter Tryz.func278, Tryz.ntmps278
  go_wp2_with fail
  refine (Digest_any n 5 ⟨#[]⟩ _ (by decide)).mono ?_
  rintro e w1 ⟨rfl, h1⟩
  rw [emptyOk]
  go_wp2_with fail
  go_ret2
  exact ⟨rfl, h1⟩
theorem emptyRoot_any (n : Int) (w : World) : Calls Tryz.prog 232 #[.int .i64 n] w fun e w' => e = .returned (.string (emptyR n)) ∧ Ext w w' := by
  go_enter Tryz.func232, Tryz.ntmps232
  go_wp2_with fail
  refine (EmptyRoot_any n _).mono ?_
  rintro e w1 ⟨rfl, h1⟩
  go_wp2_with fail
  go_ret
  exact ⟨rfl, h1⟩
theorem isSize_any (n : Int) (w : World) : Calls Tryz.prog 231 #[.int .i64 n] w fun e w' => e = .returned (.bool (inR n 0 512)) ∧ w = w' := by
  go_enter Tryz.func231, Tryz.ntmps231
  go_wp2_with (go_at_call 140; refine (inRange_any _ _ _ _).mono ?_; rintro e w' ⟨rfl, rfl⟩)
  go_ret
  exact ⟨rfl, rfl⟩
theorem l04Size_any (n : Int) (w : World) : Calls Tryz.prog 284 #[.int .i64 n] w fun e w' => e = .returned (.bool (inR n 0 512)) ∧ w = w' := by
  go_enter Tryz.func284, Tryz.ntmps284
  go_wp2_with (go_at_call 174; refine (l01In_any _ _ _ _).mono ?_; rintro e w' ⟨rfl, rfl⟩)
  go_ret
  exact ⟨rfl, rfl⟩
/-- Is a root one of so many leaves? -/
def rootB (n s : Int) (r : ByteArray) : Bool := inR s 0 512 && ((r.size : Int) == n) && (decide (0 < s) || (r.toList == (emptyR n).toList))
def headOk (n : Int) (h : HeadD) : Bool := inR n 1 32 && inR h.number 0 399 && rootB n h.size h.root && rootB n h.taken h.takenRoot
set_option maxHeartbeats 1000000 in
theorem rootOk_any (n s : Int) (r : ByteArray) (w : World) : Calls Tryz.prog 141 #[.int .i64 n, .int .i64 s, .string r] w fun e w' => e = .returned (.bool (rootB n s r)) ∧ Ext w w' := by
  cases b1 : inR s 0 512
  · have E := Lib.hid (show rootB n s r = false by simp [rootB, b1])
    go_enter Tryz.func141, Tryz.ntmps141
    go_wp2_with (go_at_call 231; refine (isSize_any _ _).mono ?_; rintro e w' ⟨rfl, rfl⟩)
    go_ret
    exact ⟨ret_bool E.out.symm, Below.refl _ _⟩
  cases b2 : ((r.size : Int) == n)
  · have E := Lib.hid (show rootB n s r = false by simp [rootB, b2])
    have b2' : ((r.size : Int) != n) = true := by rw [bne, b2]; rfl
    go_enter Tryz.func141, Tryz.ntmps141
    go_wp2_with (go_at_call 231; refine (isSize_any _ _).mono ?_; rintro e w' ⟨rfl, rfl⟩)
    go_ret
    exact ⟨ret_bool E.out.symm, Below.refl _ _⟩
  have b2' : ((r.size : Int) != n) = false := by rw [bne, b2]; rfl
  by_cases b3 : 0 < s
  · have E := Lib.hid (show rootB n s r = true by simp [rootB, b1, b2, b3])
    have b3' : decide (0 < s) = true := decide_eq_true b3
    go_enter Tryz.func141, Tryz.ntmps141
    go_wp2_with (go_at_call 231; refine (isSize_any _ _).mono ?_; rintro e w' ⟨rfl, rfl⟩)
    go_ret
    exact ⟨ret_bool E.out.symm, Below.refl _ _⟩
  have b3' : decide (0 < s) = false := decide_eq_false b3
  have E := Lib.hid (show rootB n s r = (r.toList == (emptyR n).toList) by simp only [rootB, b1, b2, b3', Bool.true_and, Bool.false_or])
  go_enter Tryz.func141, Tryz.ntmps141
  go_wp2_with (first | (go_at_call 231; refine (isSize_any _ _).mono ?_; rintro e w' ⟨rfl, rfl⟩))
  refine (emptyRoot_any n _).mono ?_
  rintro e w1 ⟨rfl, h1⟩
  go_wp2_with fail
  go_ret
  exact ⟨ret_bool E.out.symm, h1⟩
set_option maxHeartbeats 1000000 in
theorem implHeadOk_any (n : Int) (h : HeadD) (w : World) : Calls Tryz.prog 60 #[.int .i64 n, .agg #[.int .i64 h.number, .int .i64 h.size, .string h.root, .int .i64 h.taken, .string h.takenRoot]] w fun e w' => e = .returned (.bool (headOk n h)) ∧ Ext w w' := by
  have K0 := Blk.new w 33 #[.int .i64 h.number, .int .i64 h.size, .string h.root, .int .i64 h.taken, .string h.takenRoot]
  have he := Ext.new (Below.refl w.heap.size w) (.cells #[.int .i64 h.number, .int .i64 h.size, .string h.root, .int .i64 h.taken, .string h.takenRoot] 33)
  obtain ⟨r0, m0⟩ := K0.rules
  cases b1 : inR n 1 32
  · have E := Lib.hid (show headOk n h = false by simp [headOk, b1])
    go_enter Tryz.func60, Tryz.ntmps60
    go_wp2_with (first | (go_at_call 59; refine (isWidth_any _ _).mono ?_; rintro e w' ⟨rfl, rfl⟩) | (go_at_call 140; refine (inRange_any _ _ _ _).mono ?_; rintro e w' ⟨rfl, rfl⟩))
    go_ret
    exact ⟨ret_bool E.out.symm, he⟩
  cases b2 : inR h.number 0 399
  · have E := Lib.hid (show headOk n h = false by simp [headOk, b2])
    go_enter Tryz.func60, Tryz.ntmps60
    go_wp2_with (first | (go_at_call 59; refine (isWidth_any _ _).mono ?_; rintro e w' ⟨rfl, rfl⟩) | (go_at_call 140; refine (inRange_any _ _ _ _).mono ?_; rintro e w' ⟨rfl, rfl⟩))
    go_ret
    exact ⟨ret_bool E.out.symm, he⟩
  cases b3 : rootB n h.size h.root
  · have E := Lib.hid (show headOk n h = false by simp [headOk, b3])
    go_enter Tryz.func60, Tryz.ntmps60
    go_wp2_with (first | (go_at_call 59; refine (isWidth_any _ _).mono ?_; rintro e w' ⟨rfl, rfl⟩) | (go_at_call 140; refine (inRange_any _ _ _ _).mono ?_; rintro e w' ⟨rfl, rfl⟩))
    refine (rootOk_any n h.size h.root _).mono ?_
    rintro e w1 ⟨rfl, h1⟩
    replace he := he.next h1; replace K0 := K0.ext h1; clear r0 m0 h1
    obtain ⟨r0, m0⟩ := K0.rules
    go_wp2_with fail
    go_ret
    exact ⟨ret_bool E.out.symm, he⟩
  have E := Lib.hid (show headOk n h = rootB n h.taken h.takenRoot by simp only [headOk, b1, b2, b3, Bool.true_and])
  go_enter Tryz.func60, Tryz.ntmps60
  go_wp2_with (first | (go_at_call 59; refine (isWidth_any _ _).mono ?_; rintro e w' ⟨rfl, rfl⟩) | (go_at_call 140; refine (inRange_any _ _ _ _).mono ?_; rintro e w' ⟨rfl, rfl⟩))
  obtain ⟨g, hg⟩ : ∃ g, g = w.heap.size := ⟨_, rfl⟩
  rw [← hg] at K0
  rw [← hg]
  clear hg r0 m0
  refine (rootOk_any n h.size h.root _).mono ?_
  rintro e w1 ⟨rfl, h1⟩
  replace he := he.next h1; replace K0 := K0.ext h1; clear h1
  obtain ⟨r0, m0⟩ := K0.rules
  go_wp2_with fail
  refine (rootOk_any n h.taken h.takenRoot _).mono ?_
  rintro e w2 ⟨rfl, h1⟩
  replace he := he.next h1
  go_wp2_with fail
  go_ret
  exact ⟨ret_bool E.out.symm, he⟩
theorem six_cases (p1 p2 p3 p4 p5 p6 : Bool) : p1 = false ∨ (p1 = true ∧ p2 = false) ∨ (p1 = true ∧ p2 = true ∧ p3 = false) ∨ (p1 = true ∧ p2 = true ∧ p3 = true ∧ p4 = false) ∨ (p1 = true ∧ p2 = true ∧ p3 = true ∧ p4 = true ∧ p5 = false) ∨
    (p1 = true ∧ p2 = true ∧ p3 = true ∧ p4 = true ∧ p5 = true ∧ p6 = false) ∨ (p1 = true ∧ p2 = true ∧ p3 = true ∧ p4 = true ∧ p5 = true ∧ p6 = true) := by
  cases p1 <;> cases p2 <;> cases p3 <;> cases p4 <;> cases p5 <;> cases p6 <;> simp
theorem ne_of_beq {a b : Int} {p : Bool} (h : (a == b) = p) : (a != b) = !p := by rw [bne, h]
set_option maxHeartbeats 2000000 in
theorem specHeadOk_any (n : Int) (h : HeadD) (w : World) : Calls Tryz.prog 240 #[.int .i64 n, .agg #[.int .i64 h.number, .int .i64 h.size, .string h.root, .int .i64 h.taken, .string h.takenRoot]] w fun e w' => e = .returned (.bool (headOk n h)) ∧ Ext w w' := by
  have K0 := Lib.hid (Blk.new w 33 #[.int .i64 h.number, .int .i64 h.size, .string h.root, .int .i64 h.taken, .string h.takenRoot])
  have He := Lib.hid (Ext.new (Below.refl w.heap.size w) (.cells #[.int .i64 h.number, .int .i64 h.size, .string h.root, .int .i64 h.taken, .string h.takenRoot] 33))
  rcases six_cases (inR n 1 32) (inR h.number 0 399) (inR h.size 0 512) (inR h.taken 0 512) ((h.root.size : Int) == n) ((h.takenRoot.size : Int) == n) with b1 | ⟨b1, b2⟩ | ⟨b1, b2, b3⟩ | ⟨b1, b2, b3, b4⟩ | ⟨b1, b2, b3, b4, b5⟩ | ⟨b1, b2, b3, b4, b5, b6⟩ | ⟨b1, b2, b3, b4, b5, b6⟩
  case inr.inr.inr.inr.inr.inr =>
    have b5' := ne_of_beq b5
    have b6' := ne_of_beq b6
    rw [Bool.not_true] at b5' b6'
    obtain ⟨fin, hfin⟩ : ∃ fin, fin = headOk n h := ⟨_, rfl⟩
    have E : Hid (fin = ((decide (0 < h.size) || (h.root.toList == (emptyR n).toList)) && (decide (0 < h.taken) || (h.takenRoot.toList == (emptyR n).toList)))) := Lib.hid (by rw [hfin]; simp only [headOk, rootB, b1, b2, b3, b4, b5, b6, Bool.true_and])
    rw [← hfin]
    clear hfin b5 b6
    go_enter Tryz.func240, Tryz.ntmps240
    go_wp2_with fail
    obtain ⟨g, hg⟩ : ∃ g, g = w.heap.size := ⟨_, rfl⟩
    rw [← hg] at K0
    rw [← hg]
    clear hg
    refine (specEmptyRoot_any n _).mono ?_
    rintro e w1 ⟨rfl, h1⟩
    have K1 := K0.out.ext h1; have he := He.out.next h1; clear h1 K0 He
    obtain ⟨r0, m0⟩ := K1.rules
    cases q1 : decide (0 < h.size) <;> cases q2 : (h.root.toList == (emptyR n).toList) <;> cases q3 : decide (0 < h.taken) <;> cases q4 : (h.takenRoot.toList == (emptyR n).toList)
    all_goals
      have E2 := Lib.hid (show fin = _ by rw [E.out, q1, q2, q3, q4])
      clear E
      go_wp2_with (first | (go_at_call 174; refine (l01In_any _ _ _ _).mono ?_; rintro e w' ⟨rfl, rfl⟩) | (go_at_call 284; refine (l04Size_any _ _).mono ?_; rintro e w' ⟨rfl, rfl⟩))
      go_ret
      exact ⟨ret_bool E2.out.symm, he⟩
  all_goals
    have E := Lib.hid (show headOk n h = false by simp [headOk, rootB, *])
    try have b5' := ne_of_beq b5
    try have b6' := ne_of_beq b6
    try rw [Bool.not_true] at b5'
    try rw [Bool.not_false] at b5'
    try rw [Bool.not_false] at b6'
    go_enter Tryz.func240, Tryz.ntmps240
    go_wp2_with fail
    obtain ⟨g, hg⟩ : ∃ g, g = w.heap.size := ⟨_, rfl⟩
    rw [← hg] at K0
    rw [← hg]
    clear hg
    refine (specEmptyRoot_any n _).mono ?_
    rintro e w1 ⟨rfl, h1⟩
    have K1 := K0.out.ext h1; have he := He.out.next h1; clear h1 K0 He
    obtain ⟨r0, m0⟩ := K1.rules
    go_wp2_with (first | (go_at_call 174; refine (l01In_any _ _ _ _).mono ?_; rintro e w' ⟨rfl, rfl⟩) | (go_at_call 284; refine (l04Size_any _ _).mono ?_; rintro e w' ⟨rfl, rfl⟩))
    go_ret
    exact ⟨ret_bool E.out.symm, he⟩
end Go.Proofs.YtkcjhfidgnbdiaaGreat

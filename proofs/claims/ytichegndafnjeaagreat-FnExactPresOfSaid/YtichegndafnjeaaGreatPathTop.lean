/-
  The checks of proofs: walks of their tops. Written by program (gen_pathtop.py). No condition.
-/
import Derived.Test.YtichegndafnjeaaGreatPathI3
import Derived.Test.YtichegndafnjeaaGreatPathSpec2
namespace Go.Proofs.YtichegndafnjeaaGreat
open Go.RowKit
set_option linter.unusedVariables false

set_option maxHeartbeats 2000000 in
theorem l06InOk_any (wd n a : Int) (leaf : ByteArray) (A : Option Addr) (c : Nat) (l : List ByteArray) (w : World) (hlf : leaf.size ≤ maxLen) (hl : l.length ≤ 1048576) (hr : ReadsL w w.heap.size sone 1 A l) :
    Calls Tryz.prog 91 #[.int .i64 wd, .int .i64 n, .int .i64 a, .string leaf, .slice A l.length c] w fun e w' => e = .returned (.bool (inOk wd n a leaf l)) ∧ Ext w w' := by
  have Hr := Lib.hid hr; clear hr
  cases b1 : inR wd 1 32
  · have E := Lib.hid (show inOk wd n a leaf l = false by simp only [inOk, b1, Bool.and_false, Bool.false_and])
    go_enter Tryz.func91, Tryz.ntmps91
    go_wp2_with (first | (go_at_call 78; refine (l02Width_any _ _).mono ?_; rintro e w' ⟨rfl, rfl⟩; rw [b1]))
    go_ret
    exact ⟨ret_bool E.out.symm, by first | exact Below.refl _ _ | assumption⟩
  cases b2 : ((leaf.size : Int) == wd)
  · have E := Lib.hid (show inOk wd n a leaf l = false by simp only [inOk, b2, Bool.and_false, Bool.false_and])
    go_enter Tryz.func91, Tryz.ntmps91
    go_wp2_with (first | (go_at_call 78; refine (l02Width_any _ _).mono ?_; rintro e w' ⟨rfl, rfl⟩; rw [b1]))
    go_ret
    exact ⟨ret_bool E.out.symm, by first | exact Below.refl _ _ | assumption⟩
  cases b3 : hashes wd l
  · have E := Lib.hid (show inOk wd n a leaf l = false by simp only [inOk, b3, Bool.and_false, Bool.false_and])
    go_enter Tryz.func91, Tryz.ntmps91
    go_wp2_with (first | (go_at_call 78; refine (l02Width_any _ _).mono ?_; rintro e w' ⟨rfl, rfl⟩; rw [b1]) | (go_at_call 140; refine (l04Hashes_any _ _ _ _ _ Hr.out hl).mono ?_; rintro e w1 ⟨rfl, h1⟩; rw [b3, b1]))
    go_ret
    exact ⟨ret_bool E.out.symm, by first | exact Below.refl _ _ | assumption⟩
  cases b4 : (stepsIn n a == (l.length : Int))
  · have E := Lib.hid (show inOk wd n a leaf l = false by simp only [inOk, b4, Bool.and_false, Bool.false_and])
    go_enter Tryz.func91, Tryz.ntmps91
    go_wp2_with (first | (go_at_call 78; refine (l02Width_any _ _).mono ?_; rintro e w' ⟨rfl, rfl⟩; rw [b1]) | (go_at_call 140; refine (l04Hashes_any _ _ _ _ _ Hr.out hl).mono ?_; rintro e w1 ⟨rfl, h1⟩; rw [b3, b1]) | (go_at_call 147; refine (specStepsIn_any _ _ _).mono ?_; rintro e w' ⟨rfl, rfl⟩))
    go_ret
    exact ⟨ret_bool E.out.symm, by first | exact Below.refl _ _ | assumption⟩
  have E := Lib.hid (show inOk wd n a leaf l = true by simp only [inOk, b1, b2, b3, b4, Bool.and_self])
  go_enter Tryz.func91, Tryz.ntmps91
  go_wp2_with (first | (go_at_call 78; refine (l02Width_any _ _).mono ?_; rintro e w' ⟨rfl, rfl⟩; rw [b1]) | (go_at_call 140; refine (l04Hashes_any _ _ _ _ _ Hr.out hl).mono ?_; rintro e w1 ⟨rfl, h1⟩; rw [b3, b1]) | (go_at_call 147; refine (specStepsIn_any _ _ _).mono ?_; rintro e w' ⟨rfl, rfl⟩))
  go_ret
  exact ⟨ret_bool E.out.symm, by assumption⟩
set_option maxHeartbeats 2000000 in
theorem l06BetweenOk_any (wd a : Int) (root : ByteArray) (n : Int) (A : Option Addr) (c : Nat) (l : List ByteArray) (w : World) (hlf : root.size ≤ maxLen) (hl : l.length ≤ 1048576) (hr : ReadsL w w.heap.size sone 1 A l) :
    Calls Tryz.prog 85 #[.int .i64 wd, .int .i64 a, .string root, .int .i64 n, .slice A l.length c] w fun e w' => e = .returned (.bool (betwOk wd a root n l)) ∧ Ext w w' := by
  have Hr := Lib.hid hr; clear hr
  cases b1 : inR wd 1 32
  · have E := Lib.hid (show betwOk wd a root n l = false by simp only [betwOk, b1, Bool.and_false, Bool.false_and])
    go_enter Tryz.func85, Tryz.ntmps85
    go_wp2_with (first | (go_at_call 78; refine (l02Width_any _ _).mono ?_; rintro e w' ⟨rfl, rfl⟩; rw [b1]))
    go_ret
    exact ⟨ret_bool E.out.symm, by first | exact Below.refl _ _ | assumption⟩
  cases b2 : ((root.size : Int) == wd)
  · have E := Lib.hid (show betwOk wd a root n l = false by simp only [betwOk, b2, Bool.and_false, Bool.false_and])
    go_enter Tryz.func85, Tryz.ntmps85
    go_wp2_with (first | (go_at_call 78; refine (l02Width_any _ _).mono ?_; rintro e w' ⟨rfl, rfl⟩; rw [b1]))
    go_ret
    exact ⟨ret_bool E.out.symm, by first | exact Below.refl _ _ | assumption⟩
  cases b3 : hashes wd l
  · have E := Lib.hid (show betwOk wd a root n l = false by simp only [betwOk, b3, Bool.and_false, Bool.false_and])
    go_enter Tryz.func85, Tryz.ntmps85
    go_wp2_with (first | (go_at_call 78; refine (l02Width_any _ _).mono ?_; rintro e w' ⟨rfl, rfl⟩; rw [b1]) | (go_at_call 140; refine (l04Hashes_any _ _ _ _ _ Hr.out hl).mono ?_; rintro e w1 ⟨rfl, h1⟩; rw [b3, b1]))
    go_ret
    exact ⟨ret_bool E.out.symm, by first | exact Below.refl _ _ | assumption⟩
  cases b5 : decide (1 ≤ a)
  · have E := Lib.hid (show betwOk wd a root n l = false by simp only [betwOk, b5, Bool.and_false, Bool.false_and])
    go_enter Tryz.func85, Tryz.ntmps85
    go_wp2_with (first | (go_at_call 78; refine (l02Width_any _ _).mono ?_; rintro e w' ⟨rfl, rfl⟩; rw [b1]) | (go_at_call 140; refine (l04Hashes_any _ _ _ _ _ Hr.out hl).mono ?_; rintro e w1 ⟨rfl, h1⟩; rw [b3, b1]))
    go_ret
    exact ⟨ret_bool E.out.symm, by first | exact Below.refl _ _ | assumption⟩
  cases b4 : (stepsBetween a n == (l.length : Int))
  · have E := Lib.hid (show betwOk wd a root n l = false by simp only [betwOk, b4, Bool.and_false, Bool.false_and])
    go_enter Tryz.func85, Tryz.ntmps85
    go_wp2_with (first | (go_at_call 78; refine (l02Width_any _ _).mono ?_; rintro e w' ⟨rfl, rfl⟩; rw [b1]) | (go_at_call 140; refine (l04Hashes_any _ _ _ _ _ Hr.out hl).mono ?_; rintro e w1 ⟨rfl, h1⟩; rw [b3, b1]) | (go_at_call 141; refine (specStepsBetween_any _ _ _).mono ?_; rintro e w' ⟨rfl, rfl⟩))
    go_ret
    exact ⟨ret_bool E.out.symm, by first | exact Below.refl _ _ | assumption⟩
  have E := Lib.hid (show betwOk wd a root n l = true by simp only [betwOk, b1, b2, b3, b4, b5, Bool.and_self])
  go_enter Tryz.func85, Tryz.ntmps85
  go_wp2_with (first | (go_at_call 78; refine (l02Width_any _ _).mono ?_; rintro e w' ⟨rfl, rfl⟩; rw [b1]) | (go_at_call 140; refine (l04Hashes_any _ _ _ _ _ Hr.out hl).mono ?_; rintro e w1 ⟨rfl, h1⟩; rw [b3, b1]) | (go_at_call 141; refine (specStepsBetween_any _ _ _).mono ?_; rintro e w' ⟨rfl, rfl⟩))
  go_ret
  exact ⟨ret_bool E.out.symm, by assumption⟩
set_option maxHeartbeats 2000000 in
set_option maxRecDepth 100000 in
theorem specRootBy_any (wd n a : Int) (leaf : ByteArray) (A : Option Addr) (c : Nat) (l : List ByteArray) (w : World) (hlf : leaf.size ≤ maxLen) (hlc : l.length ≤ c) (hl : l.length ≤ 1048576) (hr : ReadsL w w.heap.size sone 1 A l) :
    Calls Tryz.prog 139 #[.int .i64 wd, .int .i64 n, .int .i64 a, .string leaf, .slice A l.length c] w fun e w' => e = .returned (.tuple #[.string (rootIn wd n a leaf l), .bool (inOk wd n a leaf l)]) ∧ Ext w w' := by
  have Hr := Lib.hid hr; clear hr
  have OK := fun w hr => l06InOk_any wd n a leaf A c l w hlf hl hr
  have OK := Lib.hid OK
  cases b : inOk wd n a leaf l
  · obtain ⟨r1, r2⟩ := bad_in b
    rw [r1]
    rw [b] at OK
    go_enter Tryz.func139, Tryz.ntmps139
    go_wp2_with fail
    refine (OK.out _ Hr.out).mono ?_
    rintro e w1 ⟨rfl, h1⟩
    go_wp2_with fail
    go_ret2
    exact ⟨rfl, h1⟩
  · obtain ⟨⟨f0, f1⟩, f2, f3, ⟨f4, f5⟩, ⟨f6, f7⟩, f8⟩ := inOk_facts b
    have R1 : rootIn wd n a leaf l = (pathIn wd leaf n.toNat a.toNat l.reverse).1 := by rw [rootIn, if_pos b]
    rw [b] at OK
    rw [R1]
    clear R1 b
    have F3 := Lib.hid (show ∀ s ∈ l, s.size ≤ 32 from fun s hs => by have := f3 s hs; omega)
    clear f3
    obtain ⟨n, rfl⟩ := Int.eq_ofNat_of_zero_le (show 0 ≤ n by omega)
    obtain ⟨a, rfl⟩ := Int.eq_ofNat_of_zero_le (show 0 ≤ a by omega)
    rw [Int.toNat_natCast, Int.toNat_natCast] at *
    have F8 := Lib.hid f8; clear f8
    go_enter Tryz.func139, Tryz.ntmps139
    go_wp2_with fail
    refine (OK.out _ Hr.out).mono ?_
    rintro e w1 ⟨rfl, h1⟩
    go_wp2_with fail
    refine (l06In_any wd leaf (by omega) c l.length l A n a _ rfl hlc hl F3.out F8.out (by omega) (by omega) (by omega) (Hr.out.ext h1)).mono ?_
    rintro e w2 ⟨v, rfl, O2, h2⟩
    have he := h1.next h2
    obtain ⟨A3, c3, rfl, _⟩ := O2.form
    clear O2 h1 h2
    have B := Lib.hid (Blk.new w2 133 #[.string ⟨#[]⟩, .string (pathIn wd leaf n a l.reverse).1, .slice A3 (pathIn wd leaf n a l.reverse).2.length c3])
    replace he := Lib.hid (he.new (.cells #[.string ⟨#[]⟩, .string (pathIn wd leaf n a l.reverse).1, .slice A3 (pathIn wd leaf n a l.reverse).2.length c3] 133))
    go_upto_region 4 with fail
    obtain ⟨g, hg⟩ : ∃ g, g = w2.heap.size := ⟨_, rfl⟩
    rw [← hg] at B
    rw [← hg]
    clear hg
    generalize w2.alloc (.cells #[.string ⟨#[]⟩, .string (pathIn wd leaf n a l.reverse).1, .slice A3 (pathIn wd leaf n a l.reverse).2.length c3] 133) = w3 at *
    obtain ⟨hc, hf⟩ := B.out.rules
    go_wp2_with fail
    go_ret2
    exact ⟨rfl, by first | exact he.out | exact he.out.drewN _⟩
set_option maxHeartbeats 2000000 in
set_option maxRecDepth 100000 in
theorem specRootsBy_any (wd a : Int) (root : ByteArray) (n : Int) (A : Option Addr) (c : Nat) (l : List ByteArray) (w : World) (hlf : root.size ≤ maxLen) (hlc : l.length ≤ c) (hl : l.length ≤ 1048576) (hr : ReadsL w w.heap.size sone 1 A l) :
    Calls Tryz.prog 181 #[.int .i64 wd, .int .i64 a, .string root, .int .i64 n, .slice A l.length c] w fun e w' => e = .returned (.tuple #[.string (smallB wd a root n l), .string (bigB wd a root n l), .bool (betwOk wd a root n l)]) ∧ Ext w w' := by
  have Hr := Lib.hid hr; clear hr
  have OK := fun w hr => l06BetweenOk_any wd a root n A c l w hlf hl hr
  have OK := Lib.hid OK
  cases b : betwOk wd a root n l
  · obtain ⟨r1, r2, r3⟩ := bad_betw b
    rw [r1, r2]
    rw [b] at OK
    go_enter Tryz.func181, Tryz.ntmps181
    go_wp2_with fail
    refine (OK.out _ Hr.out).mono ?_
    rintro e w1 ⟨rfl, h1⟩
    go_wp2_with fail
    go_ret3
    exact ⟨rfl, h1⟩
  · obtain ⟨⟨f0, f1⟩, f2, f3, f4, f5, f6, f8⟩ := betwOk_facts b
    have R1 : smallB wd a root n l = (pathB wd root a.toNat n.toNat true l.reverse).small := by rw [smallB, if_pos b]
    have R2 : bigB wd a root n l = (pathB wd root a.toNat n.toNat true l.reverse).big := by rw [bigB, if_pos b]
    rw [b] at OK
    rw [R1, R2]
    clear R1 R2 b
    have F3 := Lib.hid (show ∀ s ∈ l, s.size ≤ 32 from fun s hs => by have := f3 s hs; omega)
    clear f3
    obtain ⟨n, rfl⟩ := Int.eq_ofNat_of_zero_le (show 0 ≤ n by omega)
    obtain ⟨a, rfl⟩ := Int.eq_ofNat_of_zero_le (show 0 ≤ a by omega)
    rw [Int.toNat_natCast, Int.toNat_natCast] at *
    have F8 := Lib.hid f8; clear f8
    go_enter Tryz.func181, Tryz.ntmps181
    go_wp2_with fail
    refine (OK.out _ Hr.out).mono ?_
    rintro e w1 ⟨rfl, h1⟩
    go_wp2_with fail
    refine (l06Between_any wd root (by omega) c l.length l A a n true _ rfl hlc hl F3.out F8.out (by omega) (by omega) (by omega) (Hr.out.ext h1)).mono ?_
    rintro e w2 ⟨v, rfl, O2, h2⟩
    have he := h1.next h2
    obtain ⟨A3, c3, rfl, _⟩ := O2.form
    clear O2 h1 h2
    have B := Lib.hid (Blk.new w2 133 #[.string (pathB wd root a n true l.reverse).small, .string (pathB wd root a n true l.reverse).big, .slice A3 (pathB wd root a n true l.reverse).texts.length c3])
    replace he := Lib.hid (he.new (.cells #[.string (pathB wd root a n true l.reverse).small, .string (pathB wd root a n true l.reverse).big, .slice A3 (pathB wd root a n true l.reverse).texts.length c3] 133))
    go_upto_region 4 with fail
    obtain ⟨g, hg⟩ : ∃ g, g = w2.heap.size := ⟨_, rfl⟩
    rw [← hg] at B
    rw [← hg]
    clear hg
    generalize w2.alloc (.cells #[.string (pathB wd root a n true l.reverse).small, .string (pathB wd root a n true l.reverse).big, .slice A3 (pathB wd root a n true l.reverse).texts.length c3] 133) = w3 at *
    obtain ⟨hc, hf⟩ := B.out.rules
    go_wp2_with fail
    go_quiet (fail)
    go_wp2_with fail
    go_ret3
    exact ⟨rfl, by first | exact he.out | exact he.out.drewN _⟩
theorem specCheckIn_any (wd : Int) (root : ByteArray) (n a : Int) (leaf : ByteArray) (A : Option Addr) (c : Nat) (l : List ByteArray) (w : World) (hlf : leaf.size ≤ maxLen) (hlc : l.length ≤ c) (hl : l.length ≤ 1048576) (hr : ReadsL w w.heap.size sone 1 A l) :
    Calls Tryz.prog 84 #[.int .i64 wd, .string root, .int .i64 n, .int .i64 a, .string leaf, .slice A l.length c] w fun e w' => e = .returned (.bool (checkIn wd root n a leaf l)) ∧ Ext w w' := by
  cases b1 : inOk wd n a leaf l
  · have E := Lib.hid (show checkIn wd root n a leaf l = false by simp [checkIn, b1])
    go_enter Tryz.func84, Tryz.ntmps84
    go_wp2_with fail
    refine (specRootBy_any _ _ _ _ _ _ _ _ hlf hlc hl hr).mono ?_
    rintro e w1 ⟨rfl, h1⟩
    rw [b1]
    go_wp2_with fail
    go_ret
    exact ⟨ret_bool E.out.symm, h1⟩
  · cases b2 : ((rootIn wd n a leaf l).toList == root.toList)
    all_goals
      have E := Lib.hid (show checkIn wd root n a leaf l = _ by rw [checkIn, b1, b2, Bool.true_and])
      go_enter Tryz.func84, Tryz.ntmps84
      go_wp2_with fail
      refine (specRootBy_any _ _ _ _ _ _ _ _ hlf hlc hl hr).mono ?_
      rintro e w1 ⟨rfl, h1⟩
      rw [b1]
      go_wp2_with fail
      go_ret
      exact ⟨ret_bool E.out.symm, h1⟩
set_option maxHeartbeats 4000000 in
set_option maxRecDepth 100000 in
theorem implCheckBetween_any (wd a : Int) (sroot : ByteArray) (n : Int) (root : ByteArray) (A : Option Addr) (c : Nat) (l : List ByteArray) (w : World) (hls : sroot.size ≤ maxLen) (hlf : root.size ≤ maxLen) (hlc : l.length ≤ c) (hl : l.length ≤ 1048576) (hr : ReadsL w w.heap.size sone 1 A l) :
    Calls Tryz.prog 149 #[.int .i64 wd, .int .i64 a, .string sroot, .int .i64 n, .string root, .slice A l.length c] w fun e w' => e = .returned (.bool (checkBetween wd a sroot n root l)) ∧ Ext w w' := by
  have Hr := Lib.hid hr; clear hr
  by_cases hneg : a < 0
  · have E := Lib.hid (checkBetween_low (w := wd) (sroot := sroot) (n := n) (root := root) (l := l) hneg)
    have d1 : decide (a > 0) = false := by rw [decide_eq_false_iff_not]; omega
    have d2 : decide (a < 0) = true := by rw [decide_eq_true_iff]; omega
    go_enter Tryz.func149, Tryz.ntmps149
    go_wp2_with fail
    go_ret
    exact ⟨ret_bool E.out.symm, Below.refl _ _⟩
  by_cases hz : a = 0
  case neg =>
    have ez : (a == 0) = false := by simpa using hz
    have d1 : decide (a > 0) = true := by rw [decide_eq_true_iff]; omega
    have hpos : 0 < a := by omega
    cases b1 : betwOk wd a sroot n l
    · have E := Lib.hid (show checkBetween wd a sroot n root l = false by rw [checkBetween, if_neg hz, b1]; rfl)
      go_enter Tryz.func149, Tryz.ntmps149
      go_wp2_with fail
      refine (ImplRootsBy_any _ _ _ _ _ _ _ _ hls hlc hl Hr.out).mono ?_
      rintro e w1 ⟨rfl, h1⟩
      rw [b1]
      go_wp2_with fail
      go_ret
      exact ⟨ret_bool E.out.symm, h1⟩
    cases b2 : ((smallB wd a sroot n l).toList == sroot.toList) <;> cases b3 : ((bigB wd a sroot n l).toList == root.toList)
    all_goals
      have E := Lib.hid (show checkBetween wd a sroot n root l = _ by rw [checkBetween, if_neg hz, b1, b2, b3])
      go_enter Tryz.func149, Tryz.ntmps149
      go_wp2_with fail
      refine (ImplRootsBy_any _ _ _ _ _ _ _ _ hls hlc hl Hr.out).mono ?_
      rintro e w1 ⟨rfl, h1⟩
      rw [b1]
      go_wp2_with fail
      go_ret
      exact ⟨ret_bool E.out.symm, h1⟩
  subst hz
  clear Hr
  have EZ := Lib.hid (show checkBetween wd 0 sroot n root l = checkZero wd sroot n root l by rw [checkBetween, if_pos rfl])
  cases b1 : inR wd 1 32
  · have E := Lib.hid (show checkBetween wd 0 sroot n root l = false by rw [EZ.out]; simp only [checkZero, b1, Bool.and_false, Bool.false_and])
    go_enter Tryz.func149, Tryz.ntmps149
    go_wp2_with (first | (go_at_call 80; refine (isWidth_any _ _).mono ?_; rintro e w' ⟨rfl, rfl⟩; rw [b1]))
    go_ret
    exact ⟨ret_bool E.out.symm, Below.refl _ _⟩
  cases b2 : inR n 0 512
  · have E := Lib.hid (show checkBetween wd 0 sroot n root l = false by rw [EZ.out]; simp only [checkZero, b2, Bool.and_false, Bool.false_and])
    go_enter Tryz.func149, Tryz.ntmps149
    go_wp2_with (first | (go_at_call 80; refine (isWidth_any _ _).mono ?_; rintro e w' ⟨rfl, rfl⟩; rw [b1]) | (go_at_call 185; refine (isSize_any _ _).mono ?_; rintro e w' ⟨rfl, rfl⟩; rw [b2]))
    go_ret
    exact ⟨ret_bool E.out.symm, Below.refl _ _⟩
  cases b3 : (((l.length : Nat) : Int) == 0)
  · have E := Lib.hid (show checkBetween wd 0 sroot n root l = false by rw [EZ.out]; simp only [checkZero, b3, Bool.and_false, Bool.false_and])
    have c3 := ne_of_beq b3
    go_enter Tryz.func149, Tryz.ntmps149
    go_wp2_with (first | (go_at_call 80; refine (isWidth_any _ _).mono ?_; rintro e w' ⟨rfl, rfl⟩; rw [b1]) | (go_at_call 185; refine (isSize_any _ _).mono ?_; rintro e w' ⟨rfl, rfl⟩; rw [b2]))
    go_ret
    exact ⟨ret_bool E.out.symm, Below.refl _ _⟩
  have c3 := ne_of_beq b3
  cases b4 : ((root.size : Int) == wd)
  · have E := Lib.hid (show checkBetween wd 0 sroot n root l = false by rw [EZ.out]; simp only [checkZero, b4, Bool.and_false, Bool.false_and])
    have c4 := ne_of_beq b4
    go_enter Tryz.func149, Tryz.ntmps149
    go_wp2_with (first | (go_at_call 80; refine (isWidth_any _ _).mono ?_; rintro e w' ⟨rfl, rfl⟩; rw [b1]) | (go_at_call 185; refine (isSize_any _ _).mono ?_; rintro e w' ⟨rfl, rfl⟩; rw [b2]))
    go_ret
    exact ⟨ret_bool E.out.symm, Below.refl _ _⟩
  have c4 := ne_of_beq b4
  cases b5 : (sroot.toList == (emptyR wd).toList) <;> cases b6 : decide (0 < n) <;> cases b7 : (root.toList == (emptyR wd).toList)
  all_goals
    have E := Lib.hid (show checkBetween wd 0 sroot n root l = _ by rw [EZ.out, checkZero, b1, b2, b3, b4, b5, b6, b7])
    go_enter Tryz.func149, Tryz.ntmps149
    go_wp2_with (first | (go_at_call 80; refine (isWidth_any _ _).mono ?_; rintro e w' ⟨rfl, rfl⟩; rw [b1]) | (go_at_call 185; refine (isSize_any _ _).mono ?_; rintro e w' ⟨rfl, rfl⟩; rw [b2]))
    refine (emptyRoot_any wd _).mono ?_
    rintro e w1 ⟨rfl, h1⟩
    go_wp2_with fail
    go_ret
    exact ⟨ret_bool E.out.symm, h1⟩
set_option maxHeartbeats 4000000 in
set_option maxRecDepth 100000 in
theorem specCheckBetween_any (wd a : Int) (sroot : ByteArray) (n : Int) (root : ByteArray) (A : Option Addr) (c : Nat) (l : List ByteArray) (w : World) (hls : sroot.size ≤ maxLen) (hlf : root.size ≤ maxLen) (hlc : l.length ≤ c) (hl : l.length ≤ 1048576) (hr : ReadsL w w.heap.size sone 1 A l) :
    Calls Tryz.prog 138 #[.int .i64 wd, .int .i64 a, .string sroot, .int .i64 n, .string root, .slice A l.length c] w fun e w' => e = .returned (.bool (checkBetween wd a sroot n root l)) ∧ Ext w w' := by
  have Hr := Lib.hid hr; clear hr
  by_cases hz : a = 0
  case neg =>
    have ez : (a == 0) = false := by simpa using hz
    cases b1 : betwOk wd a sroot n l
    · have E := Lib.hid (show checkBetween wd a sroot n root l = false by rw [checkBetween, if_neg hz, b1]; rfl)
      go_enter Tryz.func138, Tryz.ntmps138
      go_wp2_with fail
      refine (specRootsBy_any _ _ _ _ _ _ _ _ hls hlc hl Hr.out).mono ?_
      rintro e w1 ⟨rfl, h1⟩
      rw [b1]
      go_wp2_with fail
      go_ret
      exact ⟨ret_bool E.out.symm, h1⟩
    cases b2 : ((smallB wd a sroot n l).toList == sroot.toList) <;> cases b3 : ((bigB wd a sroot n l).toList == root.toList)
    all_goals
      have E := Lib.hid (show checkBetween wd a sroot n root l = _ by rw [checkBetween, if_neg hz, b1, b2, b3])
      go_enter Tryz.func138, Tryz.ntmps138
      go_wp2_with fail
      refine (specRootsBy_any _ _ _ _ _ _ _ _ hls hlc hl Hr.out).mono ?_
      rintro e w1 ⟨rfl, h1⟩
      rw [b1]
      go_wp2_with fail
      go_ret
      exact ⟨ret_bool E.out.symm, h1⟩
  subst hz
  clear Hr
  have EZ := Lib.hid (show checkBetween wd 0 sroot n root l = checkZero wd sroot n root l by rw [checkBetween, if_pos rfl])
  cases b1 : inR wd 1 32
  · have E := Lib.hid (show checkBetween wd 0 sroot n root l = false by rw [EZ.out]; simp only [checkZero, b1, Bool.and_false, Bool.false_and])
    go_enter Tryz.func138, Tryz.ntmps138
    go_wp2_with fail
    refine (specEmptyRoot_any wd _).mono ?_
    rintro e w1 ⟨rfl, h1⟩
    rw [b1]
    go_wp2_with (first | fail)
    go_ret
    exact ⟨ret_bool E.out.symm, h1⟩
  cases b2 : inR n 0 512
  · have E := Lib.hid (show checkBetween wd 0 sroot n root l = false by rw [EZ.out]; simp only [checkZero, b2, Bool.and_false, Bool.false_and])
    go_enter Tryz.func138, Tryz.ntmps138
    go_wp2_with fail
    refine (specEmptyRoot_any wd _).mono ?_
    rintro e w1 ⟨rfl, h1⟩
    rw [b1]
    go_wp2_with (first | (go_at_call 137; refine (l04Size_any _ _).mono ?_; rintro e w' ⟨rfl, rfl⟩; rw [b2]))
    go_ret
    exact ⟨ret_bool E.out.symm, h1⟩
  cases b3 : (((l.length : Nat) : Int) == 0)
  · have E := Lib.hid (show checkBetween wd 0 sroot n root l = false by rw [EZ.out]; simp only [checkZero, b3, Bool.and_false, Bool.false_and])
    go_enter Tryz.func138, Tryz.ntmps138
    go_wp2_with fail
    refine (specEmptyRoot_any wd _).mono ?_
    rintro e w1 ⟨rfl, h1⟩
    rw [b1]
    go_wp2_with (first | (go_at_call 137; refine (l04Size_any _ _).mono ?_; rintro e w' ⟨rfl, rfl⟩; rw [b2]))
    go_ret
    exact ⟨ret_bool E.out.symm, h1⟩
  cases b5 : (sroot.toList == (emptyR wd).toList)
  · have E := Lib.hid (show checkBetween wd 0 sroot n root l = false by rw [EZ.out]; simp only [checkZero, b5, Bool.and_false, Bool.false_and])
    go_enter Tryz.func138, Tryz.ntmps138
    go_wp2_with fail
    refine (specEmptyRoot_any wd _).mono ?_
    rintro e w1 ⟨rfl, h1⟩
    rw [b1]
    go_wp2_with (first | (go_at_call 137; refine (l04Size_any _ _).mono ?_; rintro e w' ⟨rfl, rfl⟩; rw [b2]))
    go_ret
    exact ⟨ret_bool E.out.symm, h1⟩
  cases b4 : ((root.size : Int) == wd)
  · have E := Lib.hid (show checkBetween wd 0 sroot n root l = false by rw [EZ.out]; simp only [checkZero, b4, Bool.and_false, Bool.false_and])
    go_enter Tryz.func138, Tryz.ntmps138
    go_wp2_with fail
    refine (specEmptyRoot_any wd _).mono ?_
    rintro e w1 ⟨rfl, h1⟩
    rw [b1]
    go_wp2_with (first | (go_at_call 137; refine (l04Size_any _ _).mono ?_; rintro e w' ⟨rfl, rfl⟩; rw [b2]))
    go_ret
    exact ⟨ret_bool E.out.symm, h1⟩
  cases b6 : decide (0 < n) <;> cases b7 : (root.toList == (emptyR wd).toList)
  all_goals
    have E := Lib.hid (show checkBetween wd 0 sroot n root l = _ by rw [EZ.out, checkZero, b1, b2, b3, b4, b5, b6, b7])
    go_enter Tryz.func138, Tryz.ntmps138
    go_wp2_with fail
    refine (specEmptyRoot_any wd _).mono ?_
    rintro e w1 ⟨rfl, h1⟩
    rw [b1]
    go_wp2_with (first | (go_at_call 137; refine (l04Size_any _ _).mono ?_; rintro e w' ⟨rfl, rfl⟩; rw [b2]))
    go_ret
    exact ⟨ret_bool E.out.symm, h1⟩
end Go.Proofs.YtichegndafnjeaaGreat

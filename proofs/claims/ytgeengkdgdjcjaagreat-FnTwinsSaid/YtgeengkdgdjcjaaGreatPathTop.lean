/-
  PathI3; PathSpec; PathSpec2; PathTop: No condition.
-/
import Derived.Test.YtgeengkdgdjcjaaGreatPathI2
import Derived.Test.YtgeengkdgdjcjaaGreatPathImpl
import Derived.Test.YtgeengkdgdjcjaaGreatSteps
import Derived.BigQuiet
namespace Go.Proofs.YtgeengkdgdjcjaaGreat
set_option maxHeartbeats 1500000
set_option maxRecDepth 100000
set_option linter.unusedSimpArgs false
open Go.RowKit
set_option linter.unusedVariables false
theorem results_tmp4 {fn : Func} {t u v x : Tmp} (h : fn.results = #[.tmp t, .tmp u, .tmp v, .tmp x]) (tmps : Array Value) (P : Program) (w : World) :
 (results fn tmps).run P w = .ok (.tuple #[tmps.getD t undef, tmps.getD u undef, tmps.getD v undef, tmps.getD x undef]) w := by
 simp [results, h]
def textsB (w a : Int) (root : ByteArray) (n : Int) (l : List ByteArray) : List ByteArray := if betwOk w a root n l then (pathB w root a.toNat n.toNat true l.reverse).texts else []
theorem bad_betw {w a n : Int} {root : ByteArray} {l : List ByteArray} (h : betwOk w a root n l = false) : smallB w a root n l = ⟨#[]⟩ ∧ bigB w a root n l = ⟨#[]⟩ ∧ textsB w a root n l = [] := by simp [smallB, bigB, textsB, h]
theorem rootsBy_any (wd a : Int) (root : ByteArray) (n : Int) (A : Option Addr) (c : Nat) (l : List ByteArray) (w : World) (hlf : root.size ≤ maxLen) (hlc : l.length ≤ c) (hl : l.length ≤ 1048576) (hr : ReadsL w w.heap.size sone 1 A l) :
 Calls Tryz.prog 157 #[.int .i64 wd, .int .i64 a, .string root, .int .i64 n, .slice A l.length c] w fun e w' => ∃ v, e = .returned (.tuple #[.string (smallB wd a root n l), .string (bigB wd a root n l), v, .bool (betwOk wd a root n l)]) ∧ OwnT w.heap.size w' v (textsB wd a root n l) ∧ Ext w w' := by
 have Hr := hU hr; clear hr
 cases b1 : inR wd 1 32
 · have e := (show betwOk wd a root n l = false by simp [betwOk, b1])
   have E := hU e; clear e
   obtain ⟨r1, r2, r3⟩ := bad_betw E.out
   rw [r1, r2, r3, E.out]
   go_enter Tryz.func157, Tryz.ntmps157
   go_wp2_with (first | (go_at_call 53; refine (isWidth_any _ _).mono ?_; rintro e w' ⟨rfl, rfl⟩; rw [b1]))
   ((try simp only [Exit.inBlock, Exit.then]); refine bodyPost_ret (results_tmp4 rfl _ _ _) rfl ?_)
   exact ⟨_, rfl, ownT_nil _ _, Below.refl _ _⟩
 cases b2 : ((root.size : Int) == wd)
 · have e := (show betwOk wd a root n l = false by simp [betwOk, b2])
   have E := hU e; clear e
   obtain ⟨r1, r2, r3⟩ := bad_betw E.out
   rw [r1, r2, r3, E.out]
   have c2 := ne_of_beq b2
   go_enter Tryz.func157, Tryz.ntmps157
   go_wp2_with (first | (go_at_call 53; refine (isWidth_any _ _).mono ?_; rintro e w' ⟨rfl, rfl⟩; rw [b1]))
   ((try simp only [Exit.inBlock, Exit.then]); refine bodyPost_ret (results_tmp4 rfl _ _ _) rfl ?_)
   exact ⟨_, rfl, ownT_nil _ _, Below.refl _ _⟩
 have c2 := ne_of_beq b2
 cases b3 : hashes wd l
 · have e := (show betwOk wd a root n l = false by simp [betwOk, b3])
   have E := hU e; clear e
   obtain ⟨r1, r2, r3⟩ := bad_betw E.out
   rw [r1, r2, r3, E.out]
   go_enter Tryz.func157, Tryz.ntmps157
   go_wp2_with (first | (go_at_call 53; refine (isWidth_any _ _).mono ?_; rintro e w' ⟨rfl, rfl⟩; rw [b1]) | (go_at_call 137; refine (areHashes_any _ _ _ _ _ Hr.out hl).mono ?_; rintro e w1 ⟨rfl, h1⟩; rw [b3]))
   ((try simp only [Exit.inBlock, Exit.then]); refine bodyPost_ret (results_tmp4 rfl _ _ _) rfl ?_)
   exact ⟨_, rfl, ownT_nil _ _, by assumption⟩
 cases b5 : decide (1 ≤ a)
 · have e := (show betwOk wd a root n l = false by simp only [betwOk, b5, Bool.and_false, Bool.false_and])
   have E := hU e; clear e
   obtain ⟨r1, r2, r3⟩ := bad_betw E.out
   rw [r1, r2, r3, E.out]
   have d5 : decide (a < 1) = true := by rw [decide_eq_true_iff]; simp at b5; omega
   have d6 : a < 1 := by simpa using d5
   go_enter Tryz.func157, Tryz.ntmps157
   go_wp2_with (first | (go_at_call 53; refine (isWidth_any _ _).mono ?_; rintro e w' ⟨rfl, rfl⟩; rw [b1]) | (go_at_call 137; refine (areHashes_any _ _ _ _ _ Hr.out hl).mono ?_; rintro e w1 ⟨rfl, h1⟩; rw [b3]))
   ((try simp only [Exit.inBlock, Exit.then]); refine bodyPost_ret (results_tmp4 rfl _ _ _) rfl ?_)
   exact ⟨_, rfl, ownT_nil _ _, by assumption⟩
 have d6 : 1 ≤ a := by simpa using b5
 have d5 : decide (a < 1) = false := by rw [decide_eq_false_iff_not]; omega
 cases b4 : (stepsBetween a n == (l.length : Int))
 · have e := (show betwOk wd a root n l = false by simp [betwOk, b4])
   have E := hU e; clear e
   obtain ⟨r1, r2, r3⟩ := bad_betw E.out
   rw [r1, r2, r3, E.out]
   have c4 := beq_swap b4
   have c5 := ne_of_beq c4
   go_enter Tryz.func157, Tryz.ntmps157
   go_wp2_with (first | (go_at_call 53; refine (isWidth_any _ _).mono ?_; rintro e w' ⟨rfl, rfl⟩; rw [b1]) | (go_at_call 137; refine (areHashes_any _ _ _ _ _ Hr.out hl).mono ?_; rintro e w1 ⟨rfl, h1⟩; rw [b3]) | (go_at_call 226; refine (implStepsBetween_any _ _ _).mono ?_; rintro e w' ⟨rfl, rfl⟩))
   ((try simp only [Exit.inBlock, Exit.then]); refine bodyPost_ret (results_tmp4 rfl _ _ _) rfl ?_)
   exact ⟨_, rfl, ownT_nil _ _, by assumption⟩
 have c4 := beq_swap b4
 have c5 := ne_of_beq c4
 have e : betwOk wd a root n l = true := by simp only [betwOk, b1, b2, b3, b4, b5, Bool.and_self]
 obtain ⟨⟨f0, f1⟩, f2, f3, f4, f5, f6, f8⟩ := betwOk_facts e
 have R1 : smallB wd a root n l = (pathB wd root a.toNat n.toNat true l.reverse).small := by rw [smallB, if_pos e]
 have R2 : bigB wd a root n l = (pathB wd root a.toNat n.toNat true l.reverse).big := by rw [bigB, if_pos e]
 have T : textsB wd a root n l = (pathB wd root a.toNat n.toNat true l.reverse).texts := by rw [textsB, if_pos e]
 rw [R1, R2, T, e]
 clear R1 R2 T e b5
 have F3 := hU (show ∀ s ∈ l, s.size ≤ 32 from fun s hs => by have := f3 s hs; omega)
 clear f3
 obtain ⟨n, rfl⟩ := Int.eq_ofNat_of_zero_le (show 0 ≤ n by omega)
 obtain ⟨a, rfl⟩ := Int.eq_ofNat_of_zero_le (show 0 ≤ a by omega)
 rw [Int.toNat_natCast, Int.toNat_natCast] at *
 have F8 := hU f8; clear f8
 go_enter Tryz.func157, Tryz.ntmps157
 go_wp2_with (go_at_call 53; refine (isWidth_any _ _).mono ?_; rintro e w' ⟨rfl, rfl⟩; rw [b1])
 refine (areHashes_any _ _ _ _ _ Hr.out hl).mono ?_
 rintro e w1 ⟨rfl, h1⟩
 rw [b3]
 go_wp2_with (go_at_call 226; refine (implStepsBetween_any _ _ _).mono ?_; rintro e w' ⟨rfl, rfl⟩)
 have B0 := Blk.new w1 277 #[.int .i64 wd, .slice none 0 0]
 have E0 := Ext.new h1 (.cells #[.int .i64 wd, .slice none 0 0] 277)
 have hs0 := h1.size
 obtain ⟨g, hg⟩ : ∃ g, g = w1.heap.size := ⟨_, rfl⟩
 rw [← hg] at B0 hs0
 rw [← hg]
 have hgs : g + 1 ≤ (w1.alloc (.cells #[.int .i64 wd, .slice none 0 0] 277)).heap.size := by rw [World.size_alloc]; omega
 clear hg h1
 generalize w1.alloc (.cells #[.int .i64 wd, .slice none 0 0] 277) = w2 at *
 refine (folderRoots_any w g (g + 1) wd root (by omega) c hs0 (by omega) l.length l A a n true [] w2 rfl hlc hl F3.out F8.out (by omega) (by omega) (by omega) (by simp; omega) hgs E0 ⟨_, B0, ownT_nil _ _⟩ Hr.out).mono ?_
 rintro e w3 ⟨rfl, ⟨v, B3, O3⟩, _, he3⟩
 obtain ⟨A3, c3, rfl, _⟩ := ownsRow_form O3
 have O4 := hU O3; clear O3
 obtain ⟨hc, hf⟩ := B3.rules
 go_wp2_with fail
 go_quiet (fail)
 go_wp2_with fail
 ((try simp only [Exit.inBlock, Exit.then]); refine bodyPost_ret (results_tmp4 rfl _ _ _) rfl ?_)
 refine ⟨_, rfl, ?_, he3.drewN _⟩
 have := ownsRow_base O4.out (B' := w.heap.size) (by omega)
 rw [List.nil_append] at this
 exact ownsRow_ext this (Ext.drewN (Below.refl _ _) _)
theorem ImplRootsBy_any (wd a : Int) (root : ByteArray) (n : Int) (A : Option Addr) (c : Nat) (l : List ByteArray) (w : World) (hlf : root.size ≤ maxLen) (hlc : l.length ≤ c) (hl : l.length ≤ 1048576) (hr : ReadsL w w.heap.size sone 1 A l) :
 Calls Tryz.prog 216 #[.int .i64 wd, .int .i64 a, .string root, .int .i64 n, .slice A l.length c] w fun e w' => e = .returned (.tuple #[.string (smallB wd a root n l), .string (bigB wd a root n l), .bool (betwOk wd a root n l)]) ∧ Ext w w' := by
 go_enter Tryz.func216, Tryz.ntmps216
 go_wp2_with fail
 refine (rootsBy_any _ _ _ _ _ _ _ _ hlf hlc hl hr).mono ?_
 rintro e w1 ⟨v, rfl, _, h1⟩
 go_wp2_with fail
 go_ret3
 exact ⟨rfl, h1⟩
theorem ImplRootBy_any (wd n a : Int) (leaf : ByteArray) (A : Option Addr) (c : Nat) (l : List ByteArray) (w : World) (hlf : leaf.size ≤ maxLen) (hlc : l.length ≤ c) (hl : l.length ≤ 1048576) (hr : ReadsL w w.heap.size sone 1 A l) :
 Calls Tryz.prog 217 #[.int .i64 wd, .int .i64 n, .int .i64 a, .string leaf, .slice A l.length c] w fun e w' => e = .returned (.tuple #[.string (rootIn wd n a leaf l), .bool (inOk wd n a leaf l)]) ∧ Ext w w' := by
 go_enter Tryz.func217, Tryz.ntmps217
 go_wp2_with fail
 refine (rootBy_any _ _ _ _ _ _ _ _ hlf hlc hl hr).mono ?_
 rintro e w1 ⟨v, rfl, _, h1⟩
 go_wp2_with fail
 go_ret2
 exact ⟨rfl, h1⟩
theorem CheckIn_any (wd : Int) (root : ByteArray) (n a : Int) (leaf : ByteArray) (A : Option Addr) (c : Nat) (l : List ByteArray) (w : World) (hlf : leaf.size ≤ maxLen) (hlc : l.length ≤ c) (hl : l.length ≤ 1048576) (hr : ReadsL w w.heap.size sone 1 A l) :
 Calls Tryz.prog 143 #[.int .i64 wd, .string root, .int .i64 n, .int .i64 a, .string leaf, .slice A l.length c] w fun e w' => e = .returned (.bool (checkIn wd root n a leaf l)) ∧ Ext w w' := by
 cases b1 : inOk wd n a leaf l
 · have E := hU (show checkIn wd root n a leaf l = false by simp [checkIn, b1])
   go_enter Tryz.func143, Tryz.ntmps143
   go_wp2_with fail
   refine (ImplRootBy_any _ _ _ _ _ _ _ _ hlf hlc hl hr).mono ?_
   rintro e w1 ⟨rfl, h1⟩
   rw [b1]
   go_wp2_with fail
   go_ret
   exact ⟨ret_bool E.out.symm, h1⟩
 · cases b2 : ((rootIn wd n a leaf l).toList == root.toList)
   all_goals
    have E := hU (show checkIn wd root n a leaf l = _ by rw [checkIn, b1, b2, Bool.true_and])
    go_enter Tryz.func143, Tryz.ntmps143
    go_wp2_with fail
    refine (ImplRootBy_any _ _ _ _ _ _ _ _ hlf hlc hl hr).mono ?_
    rintro e w1 ⟨rfl, h1⟩
    rw [b1]
    go_wp2_with fail
    go_ret
    exact ⟨ret_bool E.out.symm, h1⟩


set_option maxHeartbeats 4000000
theorem implCheckBetween_any (wd a : Int) (sroot : ByteArray) (n : Int) (root : ByteArray) (A : Option Addr) (c : Nat) (l : List ByteArray) (w : World) (hls : sroot.size ≤ maxLen) (hlf : root.size ≤ maxLen) (hlc : l.length ≤ c) (hl : l.length ≤ 1048576) (hr : ReadsL w w.heap.size sone 1 A l) :
 Calls Tryz.prog 142 #[.int .i64 wd, .int .i64 a, .string sroot, .int .i64 n, .string root, .slice A l.length c] w fun e w' => e = .returned (.bool (checkBetween wd a sroot n root l)) ∧ Ext w w' := by
 have Hr := hU hr; clear hr
 by_cases hneg : a < 0
 · have E := hU (checkBetween_low (w := wd) (sroot := sroot) (n := n) (root := root) (l := l) hneg)
   have d1 : decide (a > 0) = false := by rw [decide_eq_false_iff_not]; omega
   have d2 : decide (a < 0) = true := by rw [decide_eq_true_iff]; omega
   go_enter Tryz.func142, Tryz.ntmps142
   go_wp2_with fail
   go_ret
   exact ⟨ret_bool E.out.symm, Below.refl _ _⟩
 by_cases hz : a = 0
 case neg =>
  have ez : (a == 0) = false := by simpa using hz
  have d1 : decide (a > 0) = true := by rw [decide_eq_true_iff]; omega
  have hpos : 0 < a := by omega
  cases b1 : betwOk wd a sroot n l
  · have E := hU (show checkBetween wd a sroot n root l = false by rw [checkBetween, if_neg hz, b1]; rfl)
    go_enter Tryz.func142, Tryz.ntmps142
    go_wp2_with fail
    refine (ImplRootsBy_any _ _ _ _ _ _ _ _ hls hlc hl Hr.out).mono ?_
    rintro e w1 ⟨rfl, h1⟩
    rw [b1]
    go_wp2_with fail
    go_ret
    exact ⟨ret_bool E.out.symm, h1⟩
  cases b2 : ((smallB wd a sroot n l).toList == sroot.toList) <;> cases b3 : ((bigB wd a sroot n l).toList == root.toList)
  all_goals
   have E := hU (show checkBetween wd a sroot n root l = _ by rw [checkBetween, if_neg hz, b1, b2, b3])
   go_enter Tryz.func142, Tryz.ntmps142
   go_wp2_with fail
   refine (ImplRootsBy_any _ _ _ _ _ _ _ _ hls hlc hl Hr.out).mono ?_
   rintro e w1 ⟨rfl, h1⟩
   rw [b1]
   go_wp2_with fail
   go_ret
   exact ⟨ret_bool E.out.symm, h1⟩
 subst hz
 clear Hr
 have EZ := hU (show checkBetween wd 0 sroot n root l = checkZero wd sroot n root l by rw [checkBetween, if_pos rfl])
 cases b1 : inR wd 1 32
 · have E := hU (show checkBetween wd 0 sroot n root l = false by rw [EZ.out]; simp only [checkZero, b1, Bool.and_false, Bool.false_and])
   go_enter Tryz.func142, Tryz.ntmps142
   go_wp2_with (first | (go_at_call 53; refine (isWidth_any _ _).mono ?_; rintro e w' ⟨rfl, rfl⟩; rw [b1]))
   go_ret
   exact ⟨ret_bool E.out.symm, Below.refl _ _⟩
 cases b2 : inR n 0 512
 · have E := hU (show checkBetween wd 0 sroot n root l = false by rw [EZ.out]; simp only [checkZero, b2, Bool.and_false, Bool.false_and])
   go_enter Tryz.func142, Tryz.ntmps142
   go_wp2_with (first | (go_at_call 53; refine (isWidth_any _ _).mono ?_; rintro e w' ⟨rfl, rfl⟩; rw [b1]) | (go_at_call 215; refine (isSize_any _ _).mono ?_; rintro e w' ⟨rfl, rfl⟩; rw [b2]))
   go_ret
   exact ⟨ret_bool E.out.symm, Below.refl _ _⟩
 cases b3 : (((l.length : Nat) : Int) == 0)
 · have E := hU (show checkBetween wd 0 sroot n root l = false by rw [EZ.out]; simp only [checkZero, b3, Bool.and_false, Bool.false_and])
   have c3 := ne_of_beq b3
   go_enter Tryz.func142, Tryz.ntmps142
   go_wp2_with (first | (go_at_call 53; refine (isWidth_any _ _).mono ?_; rintro e w' ⟨rfl, rfl⟩; rw [b1]) | (go_at_call 215; refine (isSize_any _ _).mono ?_; rintro e w' ⟨rfl, rfl⟩; rw [b2]))
   go_ret
   exact ⟨ret_bool E.out.symm, Below.refl _ _⟩
 have c3 := ne_of_beq b3
 cases b4 : ((root.size : Int) == wd)
 · have E := hU (show checkBetween wd 0 sroot n root l = false by rw [EZ.out]; simp only [checkZero, b4, Bool.and_false, Bool.false_and])
   have c4 := ne_of_beq b4
   go_enter Tryz.func142, Tryz.ntmps142
   go_wp2_with (first | (go_at_call 53; refine (isWidth_any _ _).mono ?_; rintro e w' ⟨rfl, rfl⟩; rw [b1]) | (go_at_call 215; refine (isSize_any _ _).mono ?_; rintro e w' ⟨rfl, rfl⟩; rw [b2]))
   go_ret
   exact ⟨ret_bool E.out.symm, Below.refl _ _⟩
 have c4 := ne_of_beq b4
 cases b5 : (sroot.toList == (emptyR wd).toList) <;> cases b6 : decide (0 < n) <;> cases b7 : (root.toList == (emptyR wd).toList)
 all_goals
  have E := hU (show checkBetween wd 0 sroot n root l = _ by rw [EZ.out, checkZero, b1, b2, b3, b4, b5, b6, b7])
  go_enter Tryz.func142, Tryz.ntmps142
  go_wp2_with (first | (go_at_call 53; refine (isWidth_any _ _).mono ?_; rintro e w' ⟨rfl, rfl⟩; rw [b1]) | (go_at_call 215; refine (isSize_any _ _).mono ?_; rintro e w' ⟨rfl, rfl⟩; rw [b2]))
  refine (emptyRoot_any wd _).mono ?_
  rintro e w1 ⟨rfl, h1⟩
  go_wp2_with fail
  go_ret
  exact ⟨ret_bool E.out.symm, h1⟩
end Go.Proofs.YtgeengkdgdjcjaaGreat

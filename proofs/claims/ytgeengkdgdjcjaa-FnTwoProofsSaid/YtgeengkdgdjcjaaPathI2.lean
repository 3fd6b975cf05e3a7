/-
  PathI2: No condition.
-/
import Derived.Test.YtgeengkdgdjcjaaPathImpl
import Derived.Test.YtgeengkdgdjcjaaSteps
import Derived.BigQuiet
namespace Go.Proofs.Ytgeengkdgdjcjaa
set_option maxHeartbeats 1500000
set_option maxRecDepth 100000
set_option linter.unusedSimpArgs false
open Go.RowKit
set_option linter.unusedVariables false
theorem ownT_nil (w : World) (B : Nat) : OwnT B w (.slice none 0 0) [] := World.ownsRow_nil w B 9 1
theorem beq_swap {a b : Int} {p : Bool} (h : (a == b) = p) : (b == a) = p := by rw [← h]; exact Bool.beq_comm ..
theorem rootBy_any (wd n a : Int) (leaf : ByteArray) (A : Option Addr) (c : Nat) (l : List ByteArray) (w : World) (hlf : leaf.size ≤ maxLen) (hlc : l.length ≤ c) (hl : l.length ≤ 1048576) (hr : ReadsL w w.heap.size sone 1 A l) :
 Calls Try.prog 25 #[.int .i64 wd, .int .i64 n, .int .i64 a, .string leaf, .slice A l.length c] w fun e w' => ∃ v, e = .returned (.tuple #[.string (rootIn wd n a leaf l), v, .bool (inOk wd n a leaf l)]) ∧ OwnT w.heap.size w' v (textsIn wd n a leaf l) ∧ Ext w w' := by
 have Hr := hU hr; clear hr
 cases b1 : inR wd 1 32
 · have e := (show inOk wd n a leaf l = false by simp [inOk, b1])
   have E := hU e; clear e
   obtain ⟨r1, r2⟩ := bad_in E.out
   rw [r1, r2, E.out]
   go_enter Try.func25, Try.ntmps25
   go_wp2_with (go_at_call 26; refine (isWidth_any _ _).mono ?_; rintro e w' ⟨rfl, rfl⟩; rw [b1])
   go_ret3
   exact ⟨_, rfl, ownT_nil _ _, Below.refl _ _⟩
 cases b2 : ((leaf.size : Int) == wd)
 · have e := (show inOk wd n a leaf l = false by simp [inOk, b2])
   have E := hU e; clear e
   obtain ⟨r1, r2⟩ := bad_in E.out
   rw [r1, r2, E.out]
   have c2 := ne_of_beq b2
   go_enter Try.func25, Try.ntmps25
   go_wp2_with (go_at_call 26; refine (isWidth_any _ _).mono ?_; rintro e w' ⟨rfl, rfl⟩; rw [b1])
   go_ret3
   exact ⟨_, rfl, ownT_nil _ _, Below.refl _ _⟩
 have c2 := ne_of_beq b2
 cases b3 : hashes wd l
 · have e := (show inOk wd n a leaf l = false by simp [inOk, b3])
   have E := hU e; clear e
   obtain ⟨r1, r2⟩ := bad_in E.out
   rw [r1, r2, E.out]
   go_enter Try.func25, Try.ntmps25
   go_wp2_with (first | (go_at_call 26; refine (isWidth_any _ _).mono ?_; rintro e w' ⟨rfl, rfl⟩; rw [b1]) | (go_at_call 37; refine (areHashes_any _ _ _ _ _ Hr.out hl).mono ?_; rintro e w1 ⟨rfl, h1⟩; rw [b3]))
   go_ret3
   exact ⟨_, rfl, ownT_nil _ _, by assumption⟩
 cases b4 : (stepsIn n a == (l.length : Int))
 · have e := (show inOk wd n a leaf l = false by simp [inOk, b4])
   have E := hU e; clear e
   obtain ⟨r1, r2⟩ := bad_in E.out
   rw [r1, r2, E.out]
   have c4 := beq_swap b4
   have c5 := ne_of_beq c4
   go_enter Try.func25, Try.ntmps25
   go_wp2_with (first | (go_at_call 26; refine (isWidth_any _ _).mono ?_; rintro e w' ⟨rfl, rfl⟩; rw [b1]) | (go_at_call 37; refine (areHashes_any _ _ _ _ _ Hr.out hl).mono ?_; rintro e w1 ⟨rfl, h1⟩; rw [b3]) | (go_at_call 38; refine (implStepsIn_any _ _ _).mono ?_; rintro e w' ⟨rfl, rfl⟩))
   go_ret3
   exact ⟨_, rfl, ownT_nil _ _, by assumption⟩
 have c4 := beq_swap b4
 have c5 := ne_of_beq c4
 have e : inOk wd n a leaf l = true := by simp [inOk, b1, b2, b3, b4]
 obtain ⟨⟨f0, f1⟩, f2, f3, ⟨f4, f5⟩, ⟨f6, f7⟩, f8⟩ := inOk_facts e
 have R : rootIn wd n a leaf l = (pathIn wd leaf n.toNat a.toNat l.reverse).1 := by rw [rootIn, if_pos e]
 have T : textsIn wd n a leaf l = (pathIn wd leaf n.toNat a.toNat l.reverse).2 := by rw [textsIn, if_pos e]
 rw [R, T, e]
 clear R T e
 have F3 := hU (show ∀ s ∈ l, s.size ≤ 32 from fun s hs => by have := f3 s hs; omega)
 clear f3
 obtain ⟨n, rfl⟩ := Int.eq_ofNat_of_zero_le f4
 obtain ⟨a, rfl⟩ := Int.eq_ofNat_of_zero_le f6
 rw [Int.toNat_natCast, Int.toNat_natCast] at *
 have F8 := hU f8; clear f8
 go_enter Try.func25, Try.ntmps25
 go_wp2_with (go_at_call 26; refine (isWidth_any _ _).mono ?_; rintro e w' ⟨rfl, rfl⟩; rw [b1])
 refine (areHashes_any _ _ _ _ _ Hr.out hl).mono ?_
 rintro e w1 ⟨rfl, h1⟩
 rw [b3]
 go_wp2_with (go_at_call 38; refine (implStepsIn_any _ _ _).mono ?_; rintro e w' ⟨rfl, rfl⟩)
 have B0 := Blk.new w1 70 #[.int .i64 wd, .slice none 0 0]
 have E0 := Ext.new h1 (.cells #[.int .i64 wd, .slice none 0 0] 70)
 have hs0 := h1.size
 obtain ⟨g, hg⟩ : ∃ g, g = w1.heap.size := ⟨_, rfl⟩
 rw [← hg] at B0 hs0
 rw [← hg]
 have hgs : g + 1 ≤ (w1.alloc (.cells #[.int .i64 wd, .slice none 0 0] 70)).heap.size := by rw [World.size_alloc]; omega
 clear hg h1
 generalize w1.alloc (.cells #[.int .i64 wd, .slice none 0 0] 70) = w2 at *
 refine (folderRoot_any w g (g + 1) wd leaf (by omega) c hs0 (by omega) l.length l A n a [] w2 rfl hlc hl F3.out F8.out (by omega) (by omega) (by omega) (by simp; omega) hgs E0 ⟨_, B0, ownT_nil _ _⟩ Hr.out).mono ?_
 rintro e w3 ⟨rfl, ⟨v, B3, O3⟩, _, he3⟩
 obtain ⟨A3, c3, rfl, _⟩ := ownsRow_form O3
 have O4 := hU O3; clear O3
 obtain ⟨hc, hf⟩ := B3.rules
 go_wp2_with fail
 go_quiet (fail)
 go_wp2_with fail
 go_ret3
 refine ⟨_, rfl, ?_, he3.drewN _⟩
 have := ownsRow_base O4.out (B' := w.heap.size) (by omega)
 rw [List.nil_append] at this
 exact ownsRow_ext this (Ext.drewN (Below.refl _ _) _)
end Go.Proofs.Ytgeengkdgdjcjaa

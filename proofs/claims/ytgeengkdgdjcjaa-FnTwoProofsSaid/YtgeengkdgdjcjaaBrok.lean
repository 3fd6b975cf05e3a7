/-
  Brok: No condition.
-/
import Derived.Test.YtgeengkdgdjcjaaPre
namespace Go.Proofs.Ytgeengkdgdjcjaa
set_option maxHeartbeats 1000000
set_option linter.unusedSimpArgs false
open Go.RowKit
set_option linter.unusedVariables false
theorem broken_yes (n : Int) (a b : PreD) (w : World) (ha : a.Ok) (hb : b.Ok) (h : brokenB n a b = true) : Calls Try.prog 14 #[.int .i64 n, .agg #[.int .i64 a.tag, .string a.text], .agg #[.int .i64 b.tag, .string b.text]] w fun e w' => e = .returned (.bool true) ∧ Ext w w' := by
 obtain ⟨B0, B1, he⟩ := two_blks w #[.int .i64 a.tag, .string a.text] #[.int .i64 b.tag, .string b.text] 39 39
 obtain ⟨r1, r2⟩ := B0.rules
 obtain ⟨r3, r4⟩ := B1.rules
 have hq := PreD.run_neq a b
 have hq2 := PreD.run_eql a b
 simp only [brokenB, Bool.and_eq_true, Bool.not_eq_true'] at h
 obtain ⟨⟨⟨c1, c2⟩, c3⟩, c4⟩ := h
 obtain ⟨_, k1⟩ := ha
 obtain ⟨_, k2⟩ := hb
 have K0 := hU B0; have K1 := hU B1; have He := hU he
 clear B0 B1 he
 go_enter Try.func14, Try.ntmps14
 go_wp2_with fail
 obtain ⟨g, hg⟩ : ∃ g, g = w.heap.size := ⟨_, rfl⟩
 rw [← hg] at K0 K1
 rw [← hg]
 clear r1 r2 r3 r4 hg
 refine (specDigest_any n a.tag a.text _ k1).mono ?_
 rintro e w1 ⟨rfl, h1⟩
 have K0' := K0.out.ext h1; have K1' := K1.out.ext h1; have he := He.out.next h1
 clear h1 K0 K1 He
 obtain ⟨r1, r2⟩ := K0'.rules
 obtain ⟨r3, r4⟩ := K1'.rules
 go_wp2_with fail
 refine (specDigest_any n b.tag b.text _ k2).mono ?_
 rintro e w2 ⟨rfl, h1⟩
 have K0 := K0'.ext h1; have K1 := K1'.ext h1; replace he := he.next h1
 clear h1 K0' K1' r1 r2 r3 r4
 obtain ⟨r1, r2⟩ := K0.rules
 obtain ⟨r3, r4⟩ := K1.rules
 rw [c4] at hq hq2
 rw [c2]
 clear c1 c2 c4
 go_wp2_with fail
 go_ret
 exact ⟨rfl, he⟩
end Go.Proofs.Ytgeengkdgdjcjaa

/-
  PreHash and Broken: walks. No condition.
-/
import Derived.Test.YtaicjimppcledaaSpecDigest
import Derived.Test.YtaicjimppcledaaEqs
namespace Go.Proofs.Ytaicjimppcledaa
open Go.RowKit
set_option linter.unusedVariables false

theorem implPreHash_any (n : Int) (d : PreD) (w : World) (hd : d.Ok) : Calls Try.prog 17 #[.int .i64 n, .agg #[.int .i64 d.tag, .string d.text]] w fun e w' => e = .returned (.tuple #[.string (digest n d.tag d.text), .bool (digestOk n d.tag d.text)]) ∧ Ext w w' := by
  obtain ⟨_, k1⟩ := hd
  have he := Lib.hid (Ext.new (Below.refl w.heap.size w) (.cells #[.int .i64 d.tag, .string d.text] 27))
  go_enter Try.func17, Try.ntmps17
  go_wp2_with fail
  refine (Digest_any n d.tag d.text _ k1).mono ?_
  rintro e w1 ⟨rfl, h1⟩
  have he2 := he.out.next h1
  go_wp2_with fail
  go_ret2
  exact ⟨rfl, he2⟩
theorem specPreHash_any (n : Int) (d : PreD) (w : World) (hd : d.Ok) : Calls Try.prog 15 #[.int .i64 n, .agg #[.int .i64 d.tag, .string d.text]] w fun e w' => e = .returned (.tuple #[.string (digest n d.tag d.text), .bool (digestOk n d.tag d.text)]) ∧ Ext w w' := by
  obtain ⟨_, k1⟩ := hd
  have he := Lib.hid (Ext.new (Below.refl w.heap.size w) (.cells #[.int .i64 d.tag, .string d.text] 27))
  go_enter Try.func15, Try.ntmps15
  go_wp2_with fail
  refine (specDigest_any n d.tag d.text _ k1).mono ?_
  rintro e w1 ⟨rfl, h1⟩
  have he2 := he.out.next h1
  go_wp2_with fail
  go_ret2
  exact ⟨rfl, he2⟩
def brokenB (n : Int) (a b : PreD) : Bool := digestOk n a.tag a.text && digestOk n b.tag b.text && ((digest n a.tag a.text).toList == (digest n b.tag b.text).toList) && !(a.eqb b)

set_option maxHeartbeats 1000000 in
theorem implBroken_any (n : Int) (a b : PreD) (w : World) (ha : a.Ok) (hb : b.Ok) : Calls Try.prog 19 #[.int .i64 n, .agg #[.int .i64 a.tag, .string a.text], .agg #[.int .i64 b.tag, .string b.text]] w fun e w' => e = .returned (.bool (brokenB n a b)) ∧ Ext w w' := by
  obtain ⟨B0, B1, he⟩ := two_blks w #[.int .i64 a.tag, .string a.text] #[.int .i64 b.tag, .string b.text] 27 27
  obtain ⟨r1, r2⟩ := B0.rules
  obtain ⟨r3, r4⟩ := B1.rules
  have hq := PreD.run_neq a b
  have hq2 := PreD.run_eql a b
  have K0 := Lib.hid B0; have K1 := Lib.hid B1; have He := Lib.hid he
  clear B0 B1 he
  obtain ⟨fin, hfin⟩ : ∃ fin, fin = brokenB n a b := ⟨_, rfl⟩
  rw [← hfin]
  have Hfin : Hid (fin = (digestOk n a.tag a.text && digestOk n b.tag b.text && ((digest n a.tag a.text).toList == (digest n b.tag b.text).toList) && !(a.eqb b))) := Lib.hid hfin
  clear hfin
  go_enter Try.func19, Try.ntmps19
  go_wp2_with fail
  obtain ⟨g, hg⟩ : ∃ g, g = w.heap.size := ⟨_, rfl⟩
  rw [← hg] at K0 K1
  rw [← hg]
  clear r1 r2 r3 r4 hg
  refine (implPreHash_any n a _ ha).mono ?_
  rintro e w1 ⟨rfl, h1⟩
  have K0' := K0.out.ext h1; have K1' := K1.out.ext h1; have he := He.out.next h1
  clear h1 K0 K1 He
  obtain ⟨r1, r2⟩ := K0'.rules
  obtain ⟨r3, r4⟩ := K1'.rules
  go_wp2_with fail
  refine (implPreHash_any n b _ hb).mono ?_
  rintro e w2 ⟨rfl, h1⟩
  have K0 := K0'.ext h1; have K1 := K1'.ext h1; replace he := he.next h1
  clear h1 K0' K1' r1 r2 r3 r4
  obtain ⟨r1, r2⟩ := K0.rules
  obtain ⟨r3, r4⟩ := K1.rules
  cases c1 : digestOk n a.tag a.text <;> cases c2 : digestOk n b.tag b.text <;> cases c3 : ((digest n a.tag a.text).toList == (digest n b.tag b.text).toList) <;> cases c4 : a.eqb b
  all_goals
    have E := Lib.hid (show fin = _ by rw [Hfin.out, c1, c2, c3, c4])
    rw [c4] at hq hq2
    clear Hfin c1 c2 c4
    go_wp2_with fail
    go_ret
    exact ⟨ret_bool E.out.symm, he⟩

set_option maxHeartbeats 1000000 in
theorem specBroken_any (n : Int) (a b : PreD) (w : World) (ha : a.Ok) (hb : b.Ok) : Calls Try.prog 18 #[.int .i64 n, .agg #[.int .i64 a.tag, .string a.text], .agg #[.int .i64 b.tag, .string b.text]] w fun e w' => e = .returned (.bool (brokenB n a b)) ∧ Ext w w' := by
  obtain ⟨B0, B1, he⟩ := two_blks w #[.int .i64 a.tag, .string a.text] #[.int .i64 b.tag, .string b.text] 27 27
  obtain ⟨r1, r2⟩ := B0.rules
  obtain ⟨r3, r4⟩ := B1.rules
  have hq := PreD.run_neq a b
  have hq2 := PreD.run_eql a b
  have K0 := Lib.hid B0; have K1 := Lib.hid B1; have He := Lib.hid he
  clear B0 B1 he
  obtain ⟨fin, hfin⟩ : ∃ fin, fin = brokenB n a b := ⟨_, rfl⟩
  rw [← hfin]
  have Hfin : Hid (fin = (digestOk n a.tag a.text && digestOk n b.tag b.text && ((digest n a.tag a.text).toList == (digest n b.tag b.text).toList) && !(a.eqb b))) := Lib.hid hfin
  clear hfin
  go_enter Try.func18, Try.ntmps18
  go_wp2_with fail
  obtain ⟨g, hg⟩ : ∃ g, g = w.heap.size := ⟨_, rfl⟩
  rw [← hg] at K0 K1
  rw [← hg]
  clear r1 r2 r3 r4 hg
  refine (specPreHash_any n a _ ha).mono ?_
  rintro e w1 ⟨rfl, h1⟩
  have K0' := K0.out.ext h1; have K1' := K1.out.ext h1; have he := He.out.next h1
  clear h1 K0 K1 He
  obtain ⟨r1, r2⟩ := K0'.rules
  obtain ⟨r3, r4⟩ := K1'.rules
  go_wp2_with fail
  refine (specPreHash_any n b _ hb).mono ?_
  rintro e w2 ⟨rfl, h1⟩
  have K0 := K0'.ext h1; have K1 := K1'.ext h1; replace he := he.next h1
  clear h1 K0' K1' r1 r2 r3 r4
  obtain ⟨r1, r2⟩ := K0.rules
  obtain ⟨r3, r4⟩ := K1.rules
  cases c1 : digestOk n a.tag a.text <;> cases c2 : digestOk n b.tag b.text <;> cases c3 : ((digest n a.tag a.text).toList == (digest n b.tag b.text).toList) <;> cases c4 : a.eqb b
  all_goals
    have E := Lib.hid (show fin = _ by rw [Hfin.out, c1, c2, c3, c4])
    rw [c4] at hq hq2
    clear Hfin c1 c2 c4
    go_wp2_with fail
    go_ret
    exact ⟨ret_bool E.out.symm, he⟩
end Go.Proofs.Ytaicjimppcledaa

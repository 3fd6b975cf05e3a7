/-
  Pre: No condition.
-/
import Derived.Test.YtgeengkdgdjcjaaSpecDigest
import Derived.Test.YtgeengkdgdjcjaaNString
namespace Go.Proofs.Ytgeengkdgdjcjaa
set_option linter.unusedSimpArgs false
open Go.RowKit
set_option linter.unusedVariables false
theorem implPreHash_any (n : Int) (d : PreD) (w : World) (hd : d.Ok) : Calls Try.prog 27 #[.int .i64 n, .agg #[.int .i64 d.tag, .string d.text]] w fun e w' => e = .returned (.tuple #[.string (digest n d.tag d.text), .bool (digestOk n d.tag d.text)]) ∧ Ext w w' := by
 obtain ⟨_, k1⟩ := hd
 have he := hU (Ext.new (Below.refl w.heap.size w) (.cells #[.int .i64 d.tag, .string d.text] 39))
 go_enter Try.func27, Try.ntmps27
 go_wp2_with fail
 refine (Digest_any n d.tag d.text _ k1).mono ?_
 rintro e w1 ⟨rfl, h1⟩
 have he2 := he.out.next h1
 go_wp2_with fail
 go_ret2
 exact ⟨rfl, he2⟩
def brokenB (n : Int) (a b : PreD) : Bool := digestOk n a.tag a.text && digestOk n b.tag b.text && ((digest n a.tag a.text).toList == (digest n b.tag b.text).toList) && !(a.eqb b)
end Go.Proofs.Ytgeengkdgdjcjaa

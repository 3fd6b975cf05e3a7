/-
  PreHash and Broken: walks. No condition.
-/
import Derived.Test.YtaicjimppcledaaSpecDigest
import Derived.Test.YtaicjimppcledaaEqs
namespace Go.Proofs.Ytaicjimppcledaa
open Go.RowKit
set_option linter.unusedVariables false

theorem implPreHash_any (n : Int) (d : PreD) (w : World) (hd : d.Ok) : Calls Try.prog 17 #[.int .i64 n, .agg #[.int .i64 d.tag, .string d.text]] w fun e w' => e = .returned (.tuple #[.string (digest n d.tag d.text), .bool (digestOk n d.tag d.text)]) ∧ Ext w w' := by
  obtain ⟨_, k1⟩ := hd
  have he := Lib.hid (Ext.new (Below.refl w.heap.size w) (.cells #[.int .i64 d.tag, .string d.text] 27))
  go_enter Try.func17, Try.ntmps17
  go_wp2_with fail
  refine (Digest_any n d.tag d.text _ k1).mono ?_
  rintro e w1 ⟨rfl, h1⟩
  have he2 := he.out.next h1
  go_wp2_with fail
  go_ret2
  exact ⟨rfl, he2⟩
theorem specPreHash_any (n : Int) (d : PreD) (w : World) (hd : d.Ok) : Calls Try.prog 15 #[.int .i64 n, .agg #[.int .i64 d.tag, .string d.text]] w fun e w' => e = .returned (.tuple #[.string (digest n d.tag d.text), .bool (digestOk n d.tag d.text)]) ∧ Ext w w' := by
  obtain ⟨_, k1⟩ := hd
  have he := Lib.hid (Ext.new (Below.refl w.heap.size w) (.cells #[.int .i64 d.tag, .string d.text] 27))
  go_enter Try.func15, Try.ntmps15
  go_wp2_with fail
  refine (specDigest_any n d.tag d.text _ k1).mono ?_
  rintro e w1 ⟨rfl, h1⟩
  have he2 := he.out.next h1
  go_wp2_with fail
  go_ret2
  exact ⟨rfl, he2⟩
end Go.Proofs.Ytaicjimppcledaa

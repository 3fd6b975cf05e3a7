/-
  The laws' own functions at a client without cursors: walks. No condition.
-/
import Derived.Test.YtaicjimppcledaaClientNw
import Derived.Test.YtaicjimppcledaaConvHead
import Derived.Test.YtaicjimppcledaaConvCursor
namespace Go.Proofs.Ytaicjimppcledaa
open Go.RowKit
set_option linter.unusedVariables false

theorem eqCursorS_nil (w : World) : Calls Try.prog 79 #[.slice none 0 0, .slice none 0 0] w fun e w' => e = .returned (.bool true) ∧ Ext w w' :=
  eqCursorS_same none none 0 0 [] w Reads.nil_ Reads.nil_ (by simp)
theorem markCursorS_nil (k : Int) (w : World) : Calls Try.prog 80 #[.slice none 0 0, .int .i64 k] w fun e w' => e = .returned (.int .i64 k) ∧ Ext w w' := by
  go_enter Try.func80, Try.ntmps80
  go_wp2_with fail
  refine wp_loop_rounds 1 ?_
  rw [rounds_succ]
  go_wp2_with fail
  go_ret
  exact ⟨rfl, Below.refl _ _⟩
theorem heldCursorS_nil (k : Int) (w : World) : Calls Try.prog 81 #[.slice none 0 0, .int .i64 k] w fun e w' => e = .returned (.int .i64 k) ∧ Ext w w' := by
  go_enter Try.func81, Try.ntmps81
  go_wp2_with fail
  refine wp_loop_rounds 1 ?_
  rw [rounds_succ]
  go_wp2_with fail
  go_ret
  exact ⟨rfl, Below.refl _ _⟩
theorem markClient_nil (n : Int) (s : ByteArray) (h : HeadD) (k : Int) (w : World) : Calls Try.prog 48 #[.agg #[.int .i64 n, .string s, .int .i64 h.number, .int .i64 h.size, .string h.root, .int .i64 h.taken, .string h.takenRoot, .slice none 0 0], .int .i64 k] w fun e w' => e = .returned (.int .i64 k) ∧ Ext w w' := by
  have He := Lib.hid (Ext.new (Below.refl w.heap.size w) (.cells #[.int .i64 n, .string s, .int .i64 h.number, .int .i64 h.size, .string h.root, .int .i64 h.taken, .string h.takenRoot, .slice none 0 0] 71))
  go_enter Try.func48, Try.ntmps48
  go_wp2_with fail
  refine (markCursorS_nil k _).mono ?_
  rintro e w1 ⟨rfl, h1⟩
  have he := He.out.next h1
  go_wp2_with fail
  go_ret
  exact ⟨rfl, he⟩
theorem heldClient_nil (n : Int) (s : ByteArray) (h : HeadD) (k : Int) (w : World) (hk : 0 ≤ k) : Calls Try.prog 49 #[.agg #[.int .i64 n, .string s, .int .i64 h.number, .int .i64 h.size, .string h.root, .int .i64 h.taken, .string h.takenRoot, .slice none 0 0], .int .i64 k] w fun e w' => e = .returned (.int .i64 k) ∧ Ext w w' := by
  have He := Lib.hid (Ext.new (Below.refl w.heap.size w) (.cells #[.int .i64 n, .string s, .int .i64 h.number, .int .i64 h.size, .string h.root, .int .i64 h.taken, .string h.takenRoot, .slice none 0 0] 71))
  go_enter Try.func49, Try.ntmps49
  go_wp2_with fail
  refine (heldCursorS_nil k _).mono ?_
  rintro e w1 ⟨rfl, h1⟩
  have he := He.out.next h1
  go_wp2_with fail
  go_ret
  exact ⟨rfl, he⟩
set_option maxHeartbeats 1000000 in
theorem eqClient_nil (n : Int) (s : ByteArray) (h : HeadD) (w : World) : Calls Try.prog 47 #[.agg #[.int .i64 n, .string s, .int .i64 h.number, .int .i64 h.size, .string h.root, .int .i64 h.taken, .string h.takenRoot, .slice none 0 0], .agg #[.int .i64 n, .string s, .int .i64 h.number, .int .i64 h.size, .string h.root, .int .i64 h.taken, .string h.takenRoot, .slice none 0 0]] w fun e w' => e = .returned (.bool true) ∧ Ext w w' := by
  go_enter Try.func47, Try.ntmps47
  go_wp2_with fail
  refine (eqHead_same h _).mono ?_
  rintro e w1 ⟨rfl, h1⟩
  have B0 := ((Blk.new _ _ _).alloc _).ext h1
  have B1 := (Blk.new _ _ _).ext h1
  have he := (Ext.new (Ext.new (Below.refl _ w) _) _).next h1
  simp only [World.size_alloc] at B1
  clear h1
  obtain ⟨r0, f0⟩ := B0.rules
  obtain ⟨r1, f1⟩ := B1.rules
  go_wp2_with fail
  refine (eqCursorS_nil _).mono ?_
  rintro e w2 ⟨rfl, h1⟩
  replace he := he.next h1
  go_wp2_with fail
  go_ret
  exact ⟨rfl, he⟩
end Go.Proofs.Ytaicjimppcledaa

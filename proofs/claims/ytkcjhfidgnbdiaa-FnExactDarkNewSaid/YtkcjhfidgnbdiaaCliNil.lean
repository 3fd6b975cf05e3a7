/-
  The laws' own copying and comparing functions at Head: walks. Written by program (gen_conv.py). No condition.
  The laws' own copying and comparing functions at Cursor: walks. Written by program (gen_conv.py). No condition.
  The laws' own functions at a client without cursors: walks. No condition.
-/
import Derived.Test.YtkcjhfidgnbdiaaTypes
import Derived.StillTailTactics
import Derived.Test.YtkcjhfidgnbdiaaClientNw
namespace Go.Proofs.Ytkcjhfidgnbdiaa
set_option linter.unusedSimpArgs false
open Go.RowKit
set_option linter.unusedVariables false

def HeadD.lens (d : HeadD) : List Nat := [d.root.size, d.takenRoot.size]
theorem eqHead_same (d : HeadD) (w : World) :
    Calls Try.prog 104 #[.agg #[.int .i64 d.number, .int .i64 d.size, .string d.root, .int .i64 d.taken, .string d.takenRoot], .agg #[.int .i64 d.number, .int .i64 d.size, .string d.root, .int .i64 d.taken, .string d.takenRoot]] w fun e w' => e = .returned (.bool true) ∧ Ext w w' := by
  go_enter Try.func104, Try.ntmps104
  go_wp2
  go_ret
  exact ⟨rfl, by go_grown⟩
end Go.Proofs.Ytkcjhfidgnbdiaa
namespace Go.Proofs.Ytkcjhfidgnbdiaa
set_option linter.unusedSimpArgs false
open Go.RowKit
set_option linter.unusedVariables false

def CursorD.lens (d : CursorD) : List Nat := [d.topic.size]
theorem eqCursor_same (d : CursorD) (w : World) :
    Calls Try.prog 120 #[.agg #[.string d.topic, .int .i64 d.next, .int .i64 d.last], .agg #[.string d.topic, .int .i64 d.next, .int .i64 d.last]] w fun e w' => e = .returned (.bool true) ∧ Ext w w' := by
  go_enter Try.func120, Try.ntmps120
  go_wp2
  go_ret
  exact ⟨rfl, by go_grown⟩
set_option maxHeartbeats 1000000 in
set_option maxRecDepth 100000 in
theorem eqCursorS_same (A A' : Option Addr) (c c' : Nat) (l : List CursorD) (w : World) (hr : ReadsL w w.heap.size CursorD.cells 3 A l) (hr' : ReadsL w w.heap.size CursorD.cells 3 A' l) (hl : l.length ≤ 1048576) :
    Calls Try.prog 105 #[.slice A l.length c, .slice A' l.length c'] w fun e w' => e = .returned (.bool true) ∧ Ext w w' := by
  go_enter Try.func105, Try.ntmps105
  go_wp2
  go_loopw [5] (fun i wr => ∃ (k : Nat), k ≤ l.length ∧ i = .int .i64 k ∧ Ext w wr) (fun i _ => l.length - (intOf i).toNat)
  case atStart => exact ⟨0, Nat.zero_le _, rfl, Below.refl _ _⟩
  case round =>
    obtain ⟨k, hk, rfl, he⟩ := hrel
    by_cases hlt : k < l.length
    · obtain ⟨b, off, rfl, hb, hc⟩ := (hr.below he).at_ (k := k) hlt
      obtain ⟨b', off', rfl, hb', hc'⟩ := (hr'.below he).at_ (k := k) hlt
      obtain ⟨d, hd⟩ : ∃ d, d = l[k] := ⟨_, rfl⟩
      have hdl : l[k]? = some d := by rw [hd]; exact List.getElem?_eq_getElem hlt
      have c0 := hc 0 _ (flat_at _ 3 CursorD.cells_length l k 0 d hdl (by omega))
      have c1 := hc 1 _ (flat_at _ 3 CursorD.cells_length l k 1 d hdl (by omega))
      have c2 := hc 2 _ (flat_at _ 3 CursorD.cells_length l k 2 d hdl (by omega))
      have b0 := hc' 0 _ (flat_at _ 3 CursorD.cells_length l k 0 d hdl (by omega))
      have b1 := hc' 1 _ (flat_at _ 3 CursorD.cells_length l k 1 d hdl (by omega))
      have b2 := hc' 2 _ (flat_at _ 3 CursorD.cells_length l k 2 d hdl (by omega))
      rw [Nat.add_zero] at c0 b0
      clear hc hc' hd hdl
      go_wp2_with fail
      go_still_tail 8, (by kernel_rfl)
      change wpList _ _ _ _ _ wr.drew
      generalize hw : wr.drew = w2
      have he2 : Ext w w2 := by rw [← hw]; exact he.drew
      clear hw he
      go_wp2_with fail
      refine (eqCursor_same d _).mono ?_
      rintro e w1 ⟨rfl, h1⟩
      replace he2 := he2.next h1; clear h1 c0 c1 c2 b0 b1 b2
      go_wp2_with fail
      go_roundw
      case rel => exact ⟨k + 1, by omega, by go_num, he2⟩
      case measure => simp [intOf]; omega
    · go_wp2_with fail
      go_ret
      exact ⟨rfl, he⟩
end Go.Proofs.Ytkcjhfidgnbdiaa
namespace Go.Proofs.Ytkcjhfidgnbdiaa
set_option linter.unusedSimpArgs false
open Go.RowKit
set_option linter.unusedVariables false

theorem eqCursorS_nil (w : World) : Calls Try.prog 105 #[.slice none 0 0, .slice none 0 0] w fun e w' => e = .returned (.bool true) ∧ Ext w w' :=
  eqCursorS_same none none 0 0 [] w Reads.nil_ Reads.nil_ (by simp)
theorem markCursorS_nil (k : Int) (w : World) : Calls Try.prog 88 #[.slice none 0 0, .int .i64 k] w fun e w' => e = .returned (.int .i64 k) ∧ Ext w w' := by
  go_enter Try.func88, Try.ntmps88
  go_wp2_with fail
  refine wp_loop_rounds 1 ?_
  rw [rounds_succ]
  go_wp2_with fail
  go_ret
  exact ⟨rfl, Below.refl _ _⟩
theorem heldCursorS_nil (k : Int) (w : World) : Calls Try.prog 89 #[.slice none 0 0, .int .i64 k] w fun e w' => e = .returned (.int .i64 k) ∧ Ext w w' := by
  go_enter Try.func89, Try.ntmps89
  go_wp2_with fail
  refine wp_loop_rounds 1 ?_
  rw [rounds_succ]
  go_wp2_with fail
  go_ret
  exact ⟨rfl, Below.refl _ _⟩
set_option maxHeartbeats 1000000 in
theorem eqClient_nil (n : Int) (s : ByteArray) (h : HeadD) (w : World) : Calls Try.prog 83 #[.agg #[.int .i64 n, .string s, .int .i64 h.number, .int .i64 h.size, .string h.root, .int .i64 h.taken, .string h.takenRoot, .slice none 0 0], .agg #[.int .i64 n, .string s, .int .i64 h.number, .int .i64 h.size, .string h.root, .int .i64 h.taken, .string h.takenRoot, .slice none 0 0]] w fun e w' => e = .returned (.bool true) ∧ Ext w w' := by
  go_enter Try.func83, Try.ntmps83
  go_wp2_with fail
  refine (eqHead_same h _).mono ?_
  rintro e w1 ⟨rfl, h1⟩
  have B0 := ((Blk.new _ _ _).alloc _).ext h1
  have B1 := (Blk.new _ _ _).ext h1
  have he := (Ext.new (Ext.new (Below.refl _ w) _) _).next h1
  simp only [World.size_alloc] at B1
  clear h1
  obtain ⟨r0, f0⟩ := B0.rules
  obtain ⟨r1, f1⟩ := B1.rules
  go_wp2_with fail
  refine (eqCursorS_nil _).mono ?_
  rintro e w2 ⟨rfl, h1⟩
  replace he := he.next h1
  go_wp2_with fail
  go_ret
  exact ⟨rfl, he⟩
end Go.Proofs.Ytkcjhfidgnbdiaa

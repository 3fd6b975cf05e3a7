/-
  ShowEvent: plain, and both sides' walks. No condition.
-/
import Derived.Test.YtichegndafnjeaaDoorDec
import Derived.Test.YtichegndafnjeaaDoorItoa
import Derived.Test.YtichegndafnjeaaDoorConvEvent
import Derived.Lib.AppendIntMem
namespace Go.Proofs.YtichegndafnjeaaDoor
set_option linter.unusedSimpArgs false
open Go.RowKit
set_option linter.unusedVariables false

/-- The name of a kind of acts. -/
def actName (k : Int) : ByteArray :=
  if k = 1 then ⟨#[112, 117, 98, 108, 105, 115, 104]⟩
  else if k = 2 then ⟨#[115, 101, 97, 108]⟩
  else if k = 3 then ⟨#[104, 101, 97, 100]⟩
  else if k = 4 then ⟨#[110, 101, 120, 116]⟩
  else if k = 5 then ⟨#[114, 101, 99, 101, 105, 112, 116]⟩
  else if k = 6 then ⟨#[97, 117, 100, 105, 116]⟩
  else if k = 7 then ⟨#[103, 111, 115, 115, 105, 112]⟩
  else ⟨#[110, 111, 110, 101]⟩
theorem actName_out (k : Int) (h : k < 1 ∨ 7 < k) : actName k = ⟨#[110, 111, 110, 101]⟩ := by
  unfold actName
  rw [if_neg (by omega), if_neg (by omega), if_neg (by omega), if_neg (by omega), if_neg (by omega), if_neg (by omega), if_neg (by omega)]
theorem actName_size (k : Int) : (actName k).size ≤ 7 := by
  unfold actName
  repeat' split
  all_goals decide
abbrev Tab (w : World) : Prop := Lib.TabIs Tryd.prog w "internal/strconv.uint64pow10" .u64 Lib.pow10Tab
theorem Tab.ext {w w' : World} (h : Tab w) (he : Ext w w') : Tab w' := Lib.tabBelow_of_tabIs h w' he
theorem Below.grown_ (w : World) (k : Nat) (os : Array Obj) : Below w.heap.size w (Sort.grow (w.drewN k) os) := by
  refine ⟨rfl, rfl, rfl, ?_, ?_⟩
  · show w.heap.size ≤ (w.heap ++ os).size
    rw [Array.size_append]; omega
  · intro b hb
    show (w.heap ++ os)[b]? = w.heap[b]?
    rw [Array.getElem?_append_left hb]
theorem implDecimal_any (n : Int) (w : World) (h0 : -9223372036854775808 ≤ n) (h1 : n ≤ 9223372036854775807) (ht : Tab w) : Calls Tryd.prog 23 #[.int .i64 n] w fun e w' => e = .returned (.string (decT n)) ∧ Ext w w' := by
  go_enter Tryd.func23, Tryd.ntmps23
  go_wp2_with fail
  refine (Itoa_any n h0 h1 w ht).mono ?_
  rintro e w1 ⟨rfl, k, os, rfl⟩
  have he := Below.grown_ w k os
  generalize Sort.grow (w.drewN k) os = w1 at *
  go_wp2_with fail
  go_ret
  exact ⟨rfl, he⟩
/-- The line of an event. -/
def evOn (d : EventD) : Bool := d.code == 0 && (d.kind == 1 || (d.kind == 4 || d.kind == 6))
def evLine (d : EventD) : ByteArray := if evOn d then actName d.kind ++ ⟨#[32]⟩ ++ decT d.code ++ ⟨#[32]⟩ ++ decT d.leaf else actName d.kind ++ ⟨#[32]⟩ ++ decT d.code
theorem EventD.ok_code {d : EventD} (h : d.Ok) : -9223372036854775808 ≤ d.code ∧ d.code ≤ 9223372036854775807 := by
  obtain ⟨h1, h2, h3, h4⟩ := h
  simp [Lit.wf, IntKind.min, IntKind.max, IntKind.signed, IntKind.bits] at h4
  exact h4
theorem EventD.ok_leaf {d : EventD} (h : d.Ok) : -9223372036854775808 ≤ d.leaf ∧ d.leaf ≤ 9223372036854775807 := by
  obtain ⟨h1, h2, h3, h4⟩ := h
  simp [Lit.wf, IntKind.min, IntKind.max, IntKind.signed, IntKind.bits] at h3
  exact h3
-- BEGINWALK
def actCells : Array Value := #[.string ⟨#[112, 117, 98, 108, 105, 115, 104]⟩, .string ⟨#[115, 101, 97, 108]⟩, .string ⟨#[104, 101, 97, 100]⟩, .string ⟨#[110, 101, 120, 116]⟩, .string ⟨#[114, 101, 99, 101, 105, 112, 116]⟩, .string ⟨#[97, 117, 100, 105, 116]⟩, .string ⟨#[103, 111, 115, 115, 105, 112]⟩]
theorem actCells_at (k : Int) (h0 : 1 ≤ k) (h1 : k ≤ 7) : actCells[k.toNat - 1]? = some (.string (actName k)) := by
  have h : k = 1 ∨ k = 2 ∨ k = 3 ∨ k = 4 ∨ k = 5 ∨ k = 6 ∨ k = 7 := by omega
  rcases h with rfl | rfl | rfl | rfl | rfl | rfl | rfl <;> rfl
end Go.Proofs.YtichegndafnjeaaDoor

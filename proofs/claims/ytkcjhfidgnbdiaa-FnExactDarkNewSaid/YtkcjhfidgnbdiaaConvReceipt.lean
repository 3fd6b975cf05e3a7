/-
  The laws' own copying and comparing functions at Entry: walks. Written by program (gen_conv.py). No condition.
  The laws' own copying and comparing functions at Given: walks. Written by program (gen_conv.py). No condition.
  The laws' own copying and comparing functions at Receipt: walks. Written by program (gen_conv.py). No condition.
-/
import Derived.Test.YtkcjhfidgnbdiaaTypes
import Derived.StillTailTactics
namespace Go.Proofs.Ytkcjhfidgnbdiaa
set_option linter.unusedSimpArgs false
open Go.RowKit
set_option linter.unusedVariables false

def EntryD.lens (d : EntryD) : List Nat := [d.topic.size, d.key.size, d.body.size]
theorem eqEntry_same (d : EntryD) (w : World) :
    Calls Try.prog 106 #[.agg #[.string d.topic, .int .i64 d.index, .int .i64 d.time, .string d.key, .string d.body], .agg #[.string d.topic, .int .i64 d.index, .int .i64 d.time, .string d.key, .string d.body]] w fun e w' => e = .returned (.bool true) ∧ Ext w w' := by
  go_enter Try.func106, Try.ntmps106
  go_wp2
  go_ret
  exact ⟨rfl, by go_grown⟩
end Go.Proofs.Ytkcjhfidgnbdiaa
namespace Go.Proofs.Ytkcjhfidgnbdiaa
set_option linter.unusedSimpArgs false
open Go.RowKit
set_option linter.unusedVariables false

def GivenD.lens (d : GivenD) : List Nat := [d.entry.topic.size, d.entry.key.size, d.entry.body.size]
theorem eqGiven_same (d : GivenD) (w : World) :
    Calls Try.prog 85 #[.agg #[.int .i64 d.who, .int .i64 d.leaf, .string d.entry.topic, .int .i64 d.entry.index, .int .i64 d.entry.time, .string d.entry.key, .string d.entry.body], .agg #[.int .i64 d.who, .int .i64 d.leaf, .string d.entry.topic, .int .i64 d.entry.index, .int .i64 d.entry.time, .string d.entry.key, .string d.entry.body]] w fun e w' => e = .returned (.bool true) ∧ Ext w w' := by
  have he := Ext.new (Ext.new (Below.refl w.heap.size w) (.cells #[.int .i64 d.who, .int .i64 d.leaf, .string d.entry.topic, .int .i64 d.entry.index, .int .i64 d.entry.time, .string d.entry.key, .string d.entry.body] 123)) (.cells #[.int .i64 d.who, .int .i64 d.leaf, .string d.entry.topic, .int .i64 d.entry.index, .int .i64 d.entry.time, .string d.entry.key, .string d.entry.body] 123)
  go_enter Try.func85, Try.ntmps85
  go_wp2_with fail
  refine (eqEntry_same d.entry _).mono ?_
  rintro e w1 ⟨rfl, h1⟩
  replace he := he.next h1; clear h1
  go_wp2_with fail
  go_ret
  exact ⟨rfl, he⟩

set_option maxHeartbeats 1000000 in
set_option maxRecDepth 100000 in
theorem eqGivenS_same (A A' : Option Addr) (c c' : Nat) (l : List GivenD) (w : World) (hr : ReadsL w w.heap.size GivenD.cells 7 A l) (hr' : ReadsL w w.heap.size GivenD.cells 7 A' l) (hl : l.length ≤ 1048576) :
    Calls Try.prog 48 #[.slice A l.length c, .slice A' l.length c'] w fun e w' => e = .returned (.bool true) ∧ Ext w w' := by
  go_enter Try.func48, Try.ntmps48
  go_wp2
  go_loopw [5] (fun i wr => ∃ (k : Nat), k ≤ l.length ∧ i = .int .i64 k ∧ Ext w wr) (fun i _ => l.length - (intOf i).toNat)
  case atStart => exact ⟨0, Nat.zero_le _, rfl, Below.refl _ _⟩
  case round =>
    obtain ⟨k, hk, rfl, he⟩ := hrel
    by_cases hlt : k < l.length
    · obtain ⟨b, off, rfl, hb, hc⟩ := (hr.below he).at_ (k := k) hlt
      obtain ⟨b', off', rfl, hb', hc'⟩ := (hr'.below he).at_ (k := k) hlt
      obtain ⟨d, hd⟩ : ∃ d, d = l[k] := ⟨_, rfl⟩
      have hdl : l[k]? = some d := by rw [hd]; exact List.getElem?_eq_getElem hlt
      have c0 := hc 0 _ (flat_at _ 7 GivenD.cells_length l k 0 d hdl (by omega))
      have c1 := hc 1 _ (flat_at _ 7 GivenD.cells_length l k 1 d hdl (by omega))
      have c2 := hc 2 _ (flat_at _ 7 GivenD.cells_length l k 2 d hdl (by omega))
      have c3 := hc 3 _ (flat_at _ 7 GivenD.cells_length l k 3 d hdl (by omega))
      have c4 := hc 4 _ (flat_at _ 7 GivenD.cells_length l k 4 d hdl (by omega))
      have c5 := hc 5 _ (flat_at _ 7 GivenD.cells_length l k 5 d hdl (by omega))
      have c6 := hc 6 _ (flat_at _ 7 GivenD.cells_length l k 6 d hdl (by omega))
      have b0 := hc' 0 _ (flat_at _ 7 GivenD.cells_length l k 0 d hdl (by omega))
      have b1 := hc' 1 _ (flat_at _ 7 GivenD.cells_length l k 1 d hdl (by omega))
      have b2 := hc' 2 _ (flat_at _ 7 GivenD.cells_length l k 2 d hdl (by omega))
      have b3 := hc' 3 _ (flat_at _ 7 GivenD.cells_length l k 3 d hdl (by omega))
      have b4 := hc' 4 _ (flat_at _ 7 GivenD.cells_length l k 4 d hdl (by omega))
      have b5 := hc' 5 _ (flat_at _ 7 GivenD.cells_length l k 5 d hdl (by omega))
      have b6 := hc' 6 _ (flat_at _ 7 GivenD.cells_length l k 6 d hdl (by omega))
      rw [Nat.add_zero] at c0 b0
      clear hc hc' hd hdl
      go_wp2_with fail
      go_still_tail 8, (by kernel_rfl)
      change wpList _ _ _ _ _ wr.drew
      generalize hw : wr.drew = w2
      have he2 : Ext w w2 := by rw [← hw]; exact he.drew
      clear hw he
      go_wp2_with fail
      refine (eqGiven_same d _).mono ?_
      rintro e w1 ⟨rfl, h1⟩
      replace he2 := he2.next h1; clear h1 c0 c1 c2 c3 c4 c5 c6 b0 b1 b2 b3 b4 b5 b6
      go_wp2_with fail
      go_roundw
      case rel => exact ⟨k + 1, by omega, by go_num, he2⟩
      case measure => simp [intOf]; omega
    · go_wp2_with fail
      go_ret
      exact ⟨rfl, he⟩
end Go.Proofs.Ytkcjhfidgnbdiaa
namespace Go.Proofs.Ytkcjhfidgnbdiaa
set_option linter.unusedSimpArgs false
open Go.RowKit
set_option linter.unusedVariables false

def ReceiptD.lens (d : ReceiptD) : List Nat := [d.reader.size, d.topic.size]
theorem eqReceipt_same (d : ReceiptD) (w : World) :
    Calls Try.prog 107 #[.agg #[.string d.reader, .string d.topic, .int .i64 d.index], .agg #[.string d.reader, .string d.topic, .int .i64 d.index]] w fun e w' => e = .returned (.bool true) ∧ Ext w w' := by
  go_enter Try.func107, Try.ntmps107
  go_wp2
  go_ret
  exact ⟨rfl, by go_grown⟩
end Go.Proofs.Ytkcjhfidgnbdiaa

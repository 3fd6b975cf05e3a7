/-
  The laws' own copying and comparing functions at Entry: walks. Written by program (gen_conv.py). No condition.
  The laws' own copying and comparing functions at Receipt: walks. Written by program (gen_conv.py). No condition.
-/
import Derived.Test.YtichegndafnjeaaGreatTypes
import Derived.StillTailTactics
namespace Go.Proofs.YtichegndafnjeaaGreat
open Go.RowKit
set_option linter.unusedVariables false

def EntryD.lens (d : EntryD) : List Nat := [d.topic.size, d.key.size, d.body.size]
theorem szEntry_any (d : EntryD) (left : Int) (w : World) (hd : d.Ok) (h0 : 0 ≤ left) (h1 : left ≤ 1048576) :
    Calls Tryz.prog 33 #[.agg #[.string d.topic, .int .i64 d.index, .int .i64 d.time, .string d.key, .string d.body], .int .i64 left] w fun e w' => e = .returned (.int .i64 (szL d.lens left)) ∧ Ext w w' := by
  obtain ⟨k0, k1, k2, k3, k4⟩ := hd
  unfold maxLen at *
  clear k1 k2
  go_enter Tryz.func33, Tryz.ntmps33
  go_wp2
  all_goals
    go_ret
    exact ⟨ret_int (by simp only [szL, EntryD.lens]; (repeat' split) <;> omega), by go_grown⟩
theorem toEntry_any (d : EntryD) (w : World) :
    Calls Tryz.prog 44 #[.agg #[.string d.topic, .int .i64 d.index, .int .i64 d.time, .string d.key, .string d.body]] w fun e w' => e = .returned (.agg #[.string d.topic, .int .i64 d.index, .int .i64 d.time, .string d.key, .string d.body]) ∧ Ext w w' := by
  go_enter Tryz.func44, Tryz.ntmps44
  go_wp2
  go_returns
  exact ⟨rfl, by go_grown⟩
theorem eqEntry_same (d : EntryD) (w : World) :
    Calls Tryz.prog 53 #[.agg #[.string d.topic, .int .i64 d.index, .int .i64 d.time, .string d.key, .string d.body], .agg #[.string d.topic, .int .i64 d.index, .int .i64 d.time, .string d.key, .string d.body]] w fun e w' => e = .returned (.bool true) ∧ Ext w w' := by
  go_enter Tryz.func53, Tryz.ntmps53
  go_wp2
  go_ret
  exact ⟨rfl, by go_grown⟩
set_option maxHeartbeats 1000000 in
set_option maxRecDepth 100000 in
theorem eqEntryS_same (A A' : Option Addr) (c c' : Nat) (l : List EntryD) (w : World) (hr : ReadsL w w.heap.size EntryD.cells 5 A l) (hr' : ReadsL w w.heap.size EntryD.cells 5 A' l) (hl : l.length ≤ 1048576) :
    Calls Tryz.prog 174 #[.slice A l.length c, .slice A' l.length c'] w fun e w' => e = .returned (.bool true) ∧ Ext w w' := by
  go_enter Tryz.func174, Tryz.ntmps174
  go_wp2
  go_loopw [5] (fun i wr => ∃ (k : Nat), k ≤ l.length ∧ i = .int .i64 k ∧ Ext w wr) (fun i _ => l.length - (intOf i).toNat)
  case atStart => exact ⟨0, Nat.zero_le _, rfl, Below.refl _ _⟩
  case round =>
    obtain ⟨k, hk, rfl, he⟩ := hrel
    by_cases hlt : k < l.length
    · obtain ⟨b, off, rfl, hb, hc⟩ := (hr.below he).at_ (k := k) hlt
      obtain ⟨b', off', rfl, hb', hc'⟩ := (hr'.below he).at_ (k := k) hlt
      obtain ⟨d, hd⟩ : ∃ d, d = l[k] := ⟨_, rfl⟩
      have hdl : l[k]? = some d := by rw [hd]; exact List.getElem?_eq_getElem hlt
      have c0 := hc 0 _ (flat_at _ 5 EntryD.cells_length l k 0 d hdl (by omega))
      have c1 := hc 1 _ (flat_at _ 5 EntryD.cells_length l k 1 d hdl (by omega))
      have c2 := hc 2 _ (flat_at _ 5 EntryD.cells_length l k 2 d hdl (by omega))
      have c3 := hc 3 _ (flat_at _ 5 EntryD.cells_length l k 3 d hdl (by omega))
      have c4 := hc 4 _ (flat_at _ 5 EntryD.cells_length l k 4 d hdl (by omega))
      have b0 := hc' 0 _ (flat_at _ 5 EntryD.cells_length l k 0 d hdl (by omega))
      have b1 := hc' 1 _ (flat_at _ 5 EntryD.cells_length l k 1 d hdl (by omega))
      have b2 := hc' 2 _ (flat_at _ 5 EntryD.cells_length l k 2 d hdl (by omega))
      have b3 := hc' 3 _ (flat_at _ 5 EntryD.cells_length l k 3 d hdl (by omega))
      have b4 := hc' 4 _ (flat_at _ 5 EntryD.cells_length l k 4 d hdl (by omega))
      rw [Nat.add_zero] at c0 b0
      clear hc hc' hd hdl
      go_wp2_with fail
      go_still_tail 8, (by kernel_rfl)
      change wpList _ _ _ _ _ wr.drew
      generalize hw : wr.drew = w2
      have he2 : Ext w w2 := by rw [← hw]; exact he.drew
      clear hw he
      go_wp2_with fail
      refine (eqEntry_same d _).mono ?_
      rintro e w1 ⟨rfl, h1⟩
      replace he2 := he2.next h1; clear h1 c0 c1 c2 c3 c4 b0 b1 b2 b3 b4
      go_wp2_with fail
      go_roundw
      case rel => exact ⟨k + 1, by omega, by go_num, he2⟩
      case measure => simp [intOf]; omega
    · go_wp2_with fail
      go_ret
      exact ⟨rfl, he⟩
end Go.Proofs.YtichegndafnjeaaGreat
namespace Go.Proofs.YtichegndafnjeaaGreat
open Go.RowKit
set_option linter.unusedVariables false

def ReceiptD.lens (d : ReceiptD) : List Nat := [d.reader.size, d.topic.size]
theorem szReceipt_any (d : ReceiptD) (left : Int) (w : World) (hd : d.Ok) (h0 : 0 ≤ left) (h1 : left ≤ 1048576) :
    Calls Tryz.prog 34 #[.agg #[.string d.reader, .string d.topic, .int .i64 d.index], .int .i64 left] w fun e w' => e = .returned (.int .i64 (szL d.lens left)) ∧ Ext w w' := by
  obtain ⟨k0, k1, k2⟩ := hd
  unfold maxLen at *
  clear k2
  go_enter Tryz.func34, Tryz.ntmps34
  go_wp2
  all_goals
    go_ret
    exact ⟨ret_int (by simp only [szL, ReceiptD.lens]; (repeat' split) <;> omega), by go_grown⟩
theorem toReceipt_any (d : ReceiptD) (w : World) :
    Calls Tryz.prog 45 #[.agg #[.string d.reader, .string d.topic, .int .i64 d.index]] w fun e w' => e = .returned (.agg #[.string d.reader, .string d.topic, .int .i64 d.index]) ∧ Ext w w' := by
  go_enter Tryz.func45, Tryz.ntmps45
  go_wp2
  go_returns
  exact ⟨rfl, by go_grown⟩
theorem eqReceipt_same (d : ReceiptD) (w : World) :
    Calls Tryz.prog 54 #[.agg #[.string d.reader, .string d.topic, .int .i64 d.index], .agg #[.string d.reader, .string d.topic, .int .i64 d.index]] w fun e w' => e = .returned (.bool true) ∧ Ext w w' := by
  go_enter Tryz.func54, Tryz.ntmps54
  go_wp2
  go_ret
  exact ⟨rfl, by go_grown⟩
set_option maxHeartbeats 1000000 in
set_option maxRecDepth 100000 in
theorem eqReceiptS_same (A A' : Option Addr) (c c' : Nat) (l : List ReceiptD) (w : World) (hr : ReadsL w w.heap.size ReceiptD.cells 3 A l) (hr' : ReadsL w w.heap.size ReceiptD.cells 3 A' l) (hl : l.length ≤ 1048576) :
    Calls Tryz.prog 120 #[.slice A l.length c, .slice A' l.length c'] w fun e w' => e = .returned (.bool true) ∧ Ext w w' := by
  go_enter Tryz.func120, Tryz.ntmps120
  go_wp2
  go_loopw [5] (fun i wr => ∃ (k : Nat), k ≤ l.length ∧ i = .int .i64 k ∧ Ext w wr) (fun i _ => l.length - (intOf i).toNat)
  case atStart => exact ⟨0, Nat.zero_le _, rfl, Below.refl _ _⟩
  case round =>
    obtain ⟨k, hk, rfl, he⟩ := hrel
    by_cases hlt : k < l.length
    · obtain ⟨b, off, rfl, hb, hc⟩ := (hr.below he).at_ (k := k) hlt
      obtain ⟨b', off', rfl, hb', hc'⟩ := (hr'.below he).at_ (k := k) hlt
      obtain ⟨d, hd⟩ : ∃ d, d = l[k] := ⟨_, rfl⟩
      have hdl : l[k]? = some d := by rw [hd]; exact List.getElem?_eq_getElem hlt
      have c0 := hc 0 _ (flat_at _ 3 ReceiptD.cells_length l k 0 d hdl (by omega))
      have c1 := hc 1 _ (flat_at _ 3 ReceiptD.cells_length l k 1 d hdl (by omega))
      have c2 := hc 2 _ (flat_at _ 3 ReceiptD.cells_length l k 2 d hdl (by omega))
      have b0 := hc' 0 _ (flat_at _ 3 ReceiptD.cells_length l k 0 d hdl (by omega))
      have b1 := hc' 1 _ (flat_at _ 3 ReceiptD.cells_length l k 1 d hdl (by omega))
      have b2 := hc' 2 _ (flat_at _ 3 ReceiptD.cells_length l k 2 d hdl (by omega))
      rw [Nat.add_zero] at c0 b0
      clear hc hc' hd hdl
      go_wp2_with fail
      go_still_tail 8, (by kernel_rfl)
      change wpList _ _ _ _ _ wr.drew
      generalize hw : wr.drew = w2
      have he2 : Ext w w2 := by rw [← hw]; exact he.drew
      clear hw he
      go_wp2_with fail
      refine (eqReceipt_same d _).mono ?_
      rintro e w1 ⟨rfl, h1⟩
      replace he2 := he2.next h1; clear h1 c0 c1 c2 b0 b1 b2
      go_wp2_with fail
      go_roundw
      case rel => exact ⟨k + 1, by omega, by go_num, he2⟩
      case measure => simp [intOf]; omega
    · go_wp2_with fail
      go_ret
      exact ⟨rfl, he⟩
end Go.Proofs.YtichegndafnjeaaGreat

/-
  The laws' own copying and comparing functions at Entry: walks. Written by program (gen_conv.py). No condition.
-/
import Derived.Test.YtcpfgldcijkhlaaTypes
import Derived.StillTailTactics
namespace Go.Proofs.Ytcpfgldcijkhlaa
open Go.RowKit
set_option linter.unusedVariables false

def EntryD.lens (d : EntryD) : List Nat := [d.topic.size, d.key.size, d.body.size]
theorem szEntry_any (d : EntryD) (left : Int) (w : World) (hd : d.Ok) (h0 : 0 ≤ left) (h1 : left ≤ 1048576) :
    Calls Try.prog 156 #[.agg #[.string d.topic, .int .i64 d.index, .int .i64 d.time, .string d.key, .string d.body], .int .i64 left] w fun e w' => e = .returned (.int .i64 (szL d.lens left)) ∧ Ext w w' := by
  obtain ⟨k0, k1, k2, k3, k4⟩ := hd
  unfold maxLen at *
  clear k1 k2
  go_enter Try.func156, Try.ntmps156
  go_wp2
  all_goals
    go_ret
    exact ⟨ret_int (by simp only [szL, EntryD.lens]; (repeat' split) <;> omega), by go_grown⟩
theorem toEntry_any (d : EntryD) (w : World) :
    Calls Try.prog 157 #[.agg #[.string d.topic, .int .i64 d.index, .int .i64 d.time, .string d.key, .string d.body]] w fun e w' => e = .returned (.agg #[.string d.topic, .int .i64 d.index, .int .i64 d.time, .string d.key, .string d.body]) ∧ Ext w w' := by
  go_enter Try.func157, Try.ntmps157
  go_wp2
  go_returns
  exact ⟨rfl, by go_grown⟩
theorem eqEntry_same (d : EntryD) (w : World) :
    Calls Try.prog 96 #[.agg #[.string d.topic, .int .i64 d.index, .int .i64 d.time, .string d.key, .string d.body], .agg #[.string d.topic, .int .i64 d.index, .int .i64 d.time, .string d.key, .string d.body]] w fun e w' => e = .returned (.bool true) ∧ Ext w w' := by
  go_enter Try.func96, Try.ntmps96
  go_wp2
  go_ret
  exact ⟨rfl, by go_grown⟩
set_option maxHeartbeats 1000000 in
set_option maxRecDepth 100000 in
theorem eqEntryS_same (A A' : Option Addr) (c c' : Nat) (l : List EntryD) (w : World) (hr : ReadsL w w.heap.size EntryD.cells 5 A l) (hr' : ReadsL w w.heap.size EntryD.cells 5 A' l) (hl : l.length ≤ 1048576) :
    Calls Try.prog 28 #[.slice A l.length c, .slice A' l.length c'] w fun e w' => e = .returned (.bool true) ∧ Ext w w' := by
  go_enter Try.func28, Try.ntmps28
  go_wp2
  go_loopw [5] (fun i wr => ∃ (k : Nat), k ≤ l.length ∧ i = .int .i64 k ∧ Ext w wr) (fun i _ => l.length - (intOf i).toNat)
  case atStart => exact ⟨0, Nat.zero_le _, rfl, Below.refl _ _⟩
  case round =>
    obtain ⟨k, hk, rfl, he⟩ := hrel
    by_cases hlt : k < l.length
    · obtain ⟨b, off, rfl, hb, hc⟩ := (hr.below he).at_ (k := k) hlt
      obtain ⟨b', off', rfl, hb', hc'⟩ := (hr'.below he).at_ (k := k) hlt
      obtain ⟨d, hd⟩ : ∃ d, d = l[k] := ⟨_, rfl⟩
      have hdl : l[k]? = some d := by rw [hd]; exact List.getElem?_eq_getElem hlt
      have c0 := hc 0 _ (flat_at _ 5 EntryD.cells_length l k 0 d hdl (by omega))
      have c1 := hc 1 _ (flat_at _ 5 EntryD.cells_length l k 1 d hdl (by omega))
      have c2 := hc 2 _ (flat_at _ 5 EntryD.cells_length l k 2 d hdl (by omega))
      have c3 := hc 3 _ (flat_at _ 5 EntryD.cells_length l k 3 d hdl (by omega))
      have c4 := hc 4 _ (flat_at _ 5 EntryD.cells_length l k 4 d hdl (by omega))
      have b0 := hc' 0 _ (flat_at _ 5 EntryD.cells_length l k 0 d hdl (by omega))
      have b1 := hc' 1 _ (flat_at _ 5 EntryD.cells_length l k 1 d hdl (by omega))
      have b2 := hc' 2 _ (flat_at _ 5 EntryD.cells_length l k 2 d hdl (by omega))
      have b3 := hc' 3 _ (flat_at _ 5 EntryD.cells_length l k 3 d hdl (by omega))
      have b4 := hc' 4 _ (flat_at _ 5 EntryD.cells_length l k 4 d hdl (by omega))
      rw [Nat.add_zero] at c0 b0
      clear hc hc' hd hdl
      go_wp2_with fail
      go_still_tail 8, (by kernel_rfl)
      change wpList _ _ _ _ _ wr.drew
      generalize hw : wr.drew = w2
      have he2 : Ext w w2 := by rw [← hw]; exact he.drew
      clear hw he
      go_wp2_with fail
      refine (eqEntry_same d _).mono ?_
      rintro e w1 ⟨rfl, h1⟩
      replace he2 := he2.next h1; clear h1 c0 c1 c2 c3 c4 b0 b1 b2 b3 b4
      go_wp2_with fail
      go_roundw
      case rel => exact ⟨k + 1, by omega, by go_num, he2⟩
      case measure => simp [intOf]; omega
    · go_wp2_with fail
      go_ret
      exact ⟨rfl, he⟩
end Go.Proofs.Ytcpfgldcijkhlaa

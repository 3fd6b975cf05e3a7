/-
  The laws' own copying and comparing functions at Meeting: walks. Written by program (gen_conv.py). No condition.
-/
import Derived.Test.YtkcjhfidgnbdiaaTypes
import Derived.StillTailTactics
namespace Go.Proofs.Ytkcjhfidgnbdiaa
set_option linter.unusedSimpArgs false
open Go.RowKit
set_option linter.unusedVariables false

def MeetingD.lens (d : MeetingD) : List Nat := []
theorem eqMeeting_same (d : MeetingD) (w : World) :
    Calls Try.prog 87 #[.agg #[.int .i64 d.a, .int .i64 d.b, .int .i64 d.given, .bool d.scans], .agg #[.int .i64 d.a, .int .i64 d.b, .int .i64 d.given, .bool d.scans]] w fun e w' => e = .returned (.bool true) ∧ Ext w w' := by
  go_enter Try.func87, Try.ntmps87
  go_wp2
  go_ret
  exact ⟨rfl, by go_grown⟩
set_option maxHeartbeats 1000000 in
set_option maxRecDepth 100000 in
theorem eqMeetingS_same (A A' : Option Addr) (c c' : Nat) (l : List MeetingD) (w : World) (hr : ReadsL w w.heap.size MeetingD.cells 4 A l) (hr' : ReadsL w w.heap.size MeetingD.cells 4 A' l) (hl : l.length ≤ 1048576) :
    Calls Try.prog 50 #[.slice A l.length c, .slice A' l.length c'] w fun e w' => e = .returned (.bool true) ∧ Ext w w' := by
  go_enter Try.func50, Try.ntmps50
  go_wp2
  go_loopw [5] (fun i wr => ∃ (k : Nat), k ≤ l.length ∧ i = .int .i64 k ∧ Ext w wr) (fun i _ => l.length - (intOf i).toNat)
  case atStart => exact ⟨0, Nat.zero_le _, rfl, Below.refl _ _⟩
  case round =>
    obtain ⟨k, hk, rfl, he⟩ := hrel
    by_cases hlt : k < l.length
    · obtain ⟨b, off, rfl, hb, hc⟩ := (hr.below he).at_ (k := k) hlt
      obtain ⟨b', off', rfl, hb', hc'⟩ := (hr'.below he).at_ (k := k) hlt
      obtain ⟨d, hd⟩ : ∃ d, d = l[k] := ⟨_, rfl⟩
      have hdl : l[k]? = some d := by rw [hd]; exact List.getElem?_eq_getElem hlt
      have c0 := hc 0 _ (flat_at _ 4 MeetingD.cells_length l k 0 d hdl (by omega))
      have c1 := hc 1 _ (flat_at _ 4 MeetingD.cells_length l k 1 d hdl (by omega))
      have c2 := hc 2 _ (flat_at _ 4 MeetingD.cells_length l k 2 d hdl (by omega))
      have c3 := hc 3 _ (flat_at _ 4 MeetingD.cells_length l k 3 d hdl (by omega))
      have b0 := hc' 0 _ (flat_at _ 4 MeetingD.cells_length l k 0 d hdl (by omega))
      have b1 := hc' 1 _ (flat_at _ 4 MeetingD.cells_length l k 1 d hdl (by omega))
      have b2 := hc' 2 _ (flat_at _ 4 MeetingD.cells_length l k 2 d hdl (by omega))
      have b3 := hc' 3 _ (flat_at _ 4 MeetingD.cells_length l k 3 d hdl (by omega))
      rw [Nat.add_zero] at c0 b0
      clear hc hc' hd hdl
      go_wp2_with fail
      go_still_tail 8, (by kernel_rfl)
      change wpList _ _ _ _ _ wr.drew
      generalize hw : wr.drew = w2
      have he2 : Ext w w2 := by rw [← hw]; exact he.drew
      clear hw he
      go_wp2_with fail
      refine (eqMeeting_same d _).mono ?_
      rintro e w1 ⟨rfl, h1⟩
      replace he2 := he2.next h1; clear h1 c0 c1 c2 c3 b0 b1 b2 b3
      go_wp2_with fail
      go_roundw
      case rel => exact ⟨k + 1, by omega, by go_num, he2⟩
      case measure => simp [intOf]; omega
    · go_wp2_with fail
      go_ret
      exact ⟨rfl, he⟩
end Go.Proofs.Ytkcjhfidgnbdiaa

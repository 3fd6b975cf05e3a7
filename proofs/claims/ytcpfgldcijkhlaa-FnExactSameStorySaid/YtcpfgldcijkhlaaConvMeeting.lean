/-
  The laws' own copying and comparing functions at Meeting: walks. Written by program (gen_conv.py). No condition.
-/
import Derived.Test.YtcpfgldcijkhlaaTypes
import Derived.StillTailTactics
namespace Go.Proofs.Ytcpfgldcijkhlaa
open Go.RowKit
set_option linter.unusedVariables false

def MeetingD.lens (d : MeetingD) : List Nat := []
theorem toMeeting_any (d : MeetingD) (w : World) :
    Calls Try.prog 187 #[.agg #[.int .i64 d.a, .int .i64 d.b, .int .i64 d.given, .bool d.scans]] w fun e w' => e = .returned (.agg #[.int .i64 d.a, .int .i64 d.b, .int .i64 d.given, .bool d.scans]) ∧ Ext w w' := by
  go_enter Try.func187, Try.ntmps187
  go_wp2
  go_returns
  exact ⟨rfl, by go_grown⟩
theorem eqMeeting_same (d : MeetingD) (w : World) :
    Calls Try.prog 190 #[.agg #[.int .i64 d.a, .int .i64 d.b, .int .i64 d.given, .bool d.scans], .agg #[.int .i64 d.a, .int .i64 d.b, .int .i64 d.given, .bool d.scans]] w fun e w' => e = .returned (.bool true) ∧ Ext w w' := by
  go_enter Try.func190, Try.ntmps190
  go_wp2
  go_ret
  exact ⟨rfl, by go_grown⟩
set_option maxHeartbeats 1000000 in
set_option maxRecDepth 100000 in
theorem toMeetingS_any (A : Option Addr) (c : Nat) (l : List MeetingD) (w : World) (hr : ReadsL w w.heap.size MeetingD.cells 4 A l) (hl : l.length ≤ 1048576) :
    Calls Try.prog 143 #[.slice A l.length c] w fun e w' => ∃ g, e = .returned (.slice (some ⟨g, 0, none⟩) l.length l.length) ∧ w.heap.size ≤ g ∧ Blk w' g 261 (l.flatMap MeetingD.cells).toArray ∧ Ext w w' := by
  obtain ⟨Z, hZ, hmk⟩ := make_any (P := Try.prog) (t := 123) (e := 261) (size := 4) (bytes := 32) l.length Try.underlying123 (by kernel_rfl) (by omega) hl
  have HZ := Lib.hid hZ; clear hZ
  have Hs := Lib.hid (Filled.start (f := MeetingD.cells) (size := 4) (t := 261) (l := l) w Z)
  have He := Lib.hid (Ext.new (Below.refl w.heap.size w) (.cells Z 261))
  go_enter Try.func143, Try.ntmps143
  go_wp2
  obtain ⟨g, hg⟩ : ∃ g, g = w.heap.size := ⟨_, rfl⟩
  rw [← hg]
  rw [← hg] at Hs
  have hg0 : w.heap.size ≤ g := by omega
  clear hg
  go_loopw [4] (fun i wr => ∃ (k : Nat), k ≤ l.length ∧ i = .int .i64 k ∧ Filled MeetingD.cells 4 261 l g Z k wr ∧ Ext w wr) (fun i _ => l.length - (intOf i).toNat)
  case atStart => exact ⟨0, Nat.zero_le _, rfl, Hs.out, He.out⟩
  case round =>
    obtain ⟨k, hk, rfl, hi, he⟩ := hrel
    by_cases hlt : k < l.length
    · obtain ⟨b, off, rfl, hb, hc⟩ := (hr.below he).at_ (k := k) hlt
      obtain ⟨d, hd⟩ : ∃ d, d = l[k] := ⟨_, rfl⟩
      have hdl : l[k]? = some d := by rw [hd]; exact List.getElem?_eq_getElem hlt
      have c0 := hc 0 _ (flat_at _ 4 MeetingD.cells_length l k 0 d hdl (by omega))
      have c1 := hc 1 _ (flat_at _ 4 MeetingD.cells_length l k 1 d hdl (by omega))
      have c2 := hc 2 _ (flat_at _ 4 MeetingD.cells_length l k 2 d hdl (by omega))
      have c3 := hc 3 _ (flat_at _ 4 MeetingD.cells_length l k 3 d hdl (by omega))
      rw [Nat.add_zero] at c0
      have Hd := Lib.hid hd
      clear hc hd hdl
      go_wp2_with fail
      refine (toMeeting_any d _).mono ?_
      rintro e w1 ⟨rfl, h1⟩
      replace he := he.next h1; replace hi := hi.ext h1; clear h1 c0 c1 c2 c3
      have ht := hi.there MeetingD.cells_length HZ.out hlt
      have Hn := Lib.hid (hi.step MeetingD.cells_length HZ.out hlt)
      rw [← Hd.out] at Hn
      have hz := Blk.frozen hi
      obtain ⟨v0, z0⟩ := Option.isSome_iff_exists.1 (ht 0 (by omega)).1
      obtain ⟨v1, z1⟩ := Option.isSome_iff_exists.1 (ht 1 (by omega)).1
      obtain ⟨v2, z2⟩ := Option.isSome_iff_exists.1 (ht 2 (by omega)).1
      obtain ⟨v3, z3⟩ := Option.isSome_iff_exists.1 (ht 3 (by omega)).1
      rw [Nat.add_zero] at z0
      clear ht
      go_wp2_with fail
      have He2 := Lib.hid (ext_setCells (g := g) (W := w) hg0 d.cells (k * 4) w1 he)
      go_roundw
      case rel => exact ⟨k + 1, by omega, by go_num, Hn.out, He2.out⟩
      case measure => simp [intOf]; omega
    · have Hf := Lib.hid (hi.done HZ.out (by omega))
      clear hi
      go_wp2_with fail
      go_ret
      exact ⟨g, rfl, hg0, Hf.out, he⟩
set_option maxHeartbeats 1000000 in
set_option maxRecDepth 100000 in
theorem eqMeetingS_same (A A' : Option Addr) (c c' : Nat) (l : List MeetingD) (w : World) (hr : ReadsL w w.heap.size MeetingD.cells 4 A l) (hr' : ReadsL w w.heap.size MeetingD.cells 4 A' l) (hl : l.length ≤ 1048576) :
    Calls Try.prog 148 #[.slice A l.length c, .slice A' l.length c'] w fun e w' => e = .returned (.bool true) ∧ Ext w w' := by
  go_enter Try.func148, Try.ntmps148
  go_wp2
  go_loopw [5] (fun i wr => ∃ (k : Nat), k ≤ l.length ∧ i = .int .i64 k ∧ Ext w wr) (fun i _ => l.length - (intOf i).toNat)
  case atStart => exact ⟨0, Nat.zero_le _, rfl, Below.refl _ _⟩
  case round =>
    obtain ⟨k, hk, rfl, he⟩ := hrel
    by_cases hlt : k < l.length
    · obtain ⟨b, off, rfl, hb, hc⟩ := (hr.below he).at_ (k := k) hlt
      obtain ⟨b', off', rfl, hb', hc'⟩ := (hr'.below he).at_ (k := k) hlt
      obtain ⟨d, hd⟩ : ∃ d, d = l[k] := ⟨_, rfl⟩
      have hdl : l[k]? = some d := by rw [hd]; exact List.getElem?_eq_getElem hlt
      have c0 := hc 0 _ (flat_at _ 4 MeetingD.cells_length l k 0 d hdl (by omega))
      have c1 := hc 1 _ (flat_at _ 4 MeetingD.cells_length l k 1 d hdl (by omega))
      have c2 := hc 2 _ (flat_at _ 4 MeetingD.cells_length l k 2 d hdl (by omega))
      have c3 := hc 3 _ (flat_at _ 4 MeetingD.cells_length l k 3 d hdl (by omega))
      have b0 := hc' 0 _ (flat_at _ 4 MeetingD.cells_length l k 0 d hdl (by omega))
      have b1 := hc' 1 _ (flat_at _ 4 MeetingD.cells_length l k 1 d hdl (by omega))
      have b2 := hc' 2 _ (flat_at _ 4 MeetingD.cells_length l k 2 d hdl (by omega))
      have b3 := hc' 3 _ (flat_at _ 4 MeetingD.cells_length l k 3 d hdl (by omega))
      rw [Nat.add_zero] at c0 b0
      clear hc hc' hd hdl
      go_wp2_with fail
      go_still_tail 8, (by kernel_rfl)
      change wpList _ _ _ _ _ wr.drew
      generalize hw : wr.drew = w2
      have he2 : Ext w w2 := by rw [← hw]; exact he.drew
      clear hw he
      go_wp2_with fail
      refine (eqMeeting_same d _).mono ?_
      rintro e w1 ⟨rfl, h1⟩
      replace he2 := he2.next h1; clear h1 c0 c1 c2 c3 b0 b1 b2 b3
      go_wp2_with fail
      go_roundw
      case rel => exact ⟨k + 1, by omega, by go_num, he2⟩
      case measure => simp [intOf]; omega
    · go_wp2_with fail
      go_ret
      exact ⟨rfl, he⟩
end Go.Proofs.Ytcpfgldcijkhlaa

/-
  markClientS, heldClientS at rows without cursors: walks. Written by program (gen_markz.py). No condition.
-/
import Derived.Test.YtkcjhfidgnbdiaaGreatAppSrc
namespace Go.Proofs.YtkcjhfidgnbdiaaGreat
set_option linter.unusedSimpArgs false
open Go.RowKit
set_option linter.unusedVariables false

def CliZ.mk_ (k : Nat) : CliZ := ⟨(k : Int), markB (k + 1), ⟨((k + 2 : Nat) : Int), ((k + 3 : Nat) : Int), markB (k + 4), ((k + 5 : Nat) : Int), markB (k + 6)⟩⟩
def CliZ.mkL (k n : Nat) : List CliZ := (List.range n).map (fun i => CliZ.mk_ (k + i * 7))
theorem CliZ.mkL_len (k n : Nat) : (CliZ.mkL k n).length = n := by simp [CliZ.mkL]
theorem CliZ.mkL_at (k n i : Nat) (h : i < (CliZ.mkL k n).length) : (CliZ.mkL k n)[i] = CliZ.mk_ (k + i * 7) := by simp [CliZ.mkL]
set_option maxHeartbeats 4000000 in
set_option maxRecDepth 100000 in
theorem markClientS_z (g n c k : Nat) (cs : Array Value) (w : World) (hB : Blk w g 142 cs) (hn : n * 8 ≤ cs.size) (hl : n ≤ 1048576) (hk : k ≤ 1099511627) (hz7 : ∀ j, j < n → cs[j * 8 + 7]? = some (.slice none 0 0)) :
    Calls Tryz.prog 98 #[.slice (some ⟨g, 0, none⟩) n c, .int .i64 (k : Int)] w fun e w' => e = .returned (.int .i64 ((k + n * 7 : Nat) : Int)) ∧ Blk w' g 142 (rowAt CliZ.cells 8 (CliZ.mkL k n) cs n) ∧ ExtBut g w w' := by
  have Hn := Lib.hid hn
  have Hs := Lib.hid (fun j (hj : j ≤ n) => rowAt_size (k := j) CliZ.cells_length (l := CliZ.mkL k n) (cs := cs) (by rw [CliZ.mkL_len]; exact hn) (by rw [CliZ.mkL_len]; exact hj))
  have Hst := Lib.hid (fun j (hj : j < n) => rowAt_step (k := j) CliZ.cells_length (l := CliZ.mkL k n) (cs := cs) (by rw [CliZ.mkL_len]; exact hn) (by rw [CliZ.mkL_len]; exact hj))
  have HZ7 := Lib.hid (fun j (hj : j < n) => rowAt_behind (k := j) (i := j * 8 + 7) CliZ.cells_length (l := CliZ.mkL k n) (cs := cs) (by rw [CliZ.mkL_len]; omega) (by omega) (hz7 j hj))
  clear hn hz7
  have B0 := Lib.hid (show Blk w g 142 (rowAt CliZ.cells 8 (CliZ.mkL k n) cs 0) by rw [rowAt_zero]; exact hB)
  clear hB
  go_enter Tryz.func98, Tryz.ntmps98
  go_wp2_with fail
  go_loopw [1, 5] (fun q i wr => ∃ (j : Nat), j ≤ n ∧ i = .int .i64 j ∧ q = .int .i64 ((k + j * 7 : Nat) : Int) ∧ Blk wr g 142 (rowAt CliZ.cells 8 (CliZ.mkL k n) cs j) ∧ ExtBut g w wr) (fun _ i _ => n - (intOf i).toNat)
  case atStart => exact ⟨0, Nat.zero_le _, rfl, by simp, B0.out, ExtBut.refl g w⟩
  case round =>
    clear B0
    obtain ⟨j, hj, rfl, rfl, hb, hx⟩ := hrel
    by_cases hlt : j < n
    case neg =>
      obtain rfl : j = n := by omega
      go_wp2_with fail
      go_ret
      exact ⟨rfl, hb, hx⟩
    have hz := Hs.out j hj
    have hn0 : j * 8 + 8 ≤ cs.size := by have := Hn.out; have := Nat.mul_le_mul_right 8 (show j + 1 ≤ n from hlt); omega
    have hkj : k + j * 7 ≤ 1099511627700 := by have := Nat.mul_le_mul_right 7 hj; omega
    have nz7 := HZ7.out j hlt
    generalize hM : rowAt CliZ.cells 8 (CliZ.mkL k n) cs j = M at *
    have HM := Lib.hid hM
    clear hM
    have NZ7 := Lib.hid nz7; clear nz7
    have q0 : (0 : Int) ≤ ((k + j * 7 : Nat) : Int) := by omega
    have q1 : ((k + j * 7 : Nat) : Int) ≤ 1099511627700 := by omega
    generalize hQ : k + j * 7 = Q at *
    have HQ := Lib.hid hQ
    clear hQ
    have hf := hb.frozen
    obtain ⟨v0, z0⟩ := Blk.has hb (i := j * 8) (by (try simp only [Array.size_setIfInBounds]); rw [hz]; omega)
    go_wp2_with fail
    refine (markText_int _ (Q + 1) (by omega) _ (by omega)).mono ?_
    rintro e w1 ⟨rfl, hx1⟩
    have hb1 := (hb.set_ _ _).ext hx1
    have hy1 := (hx.set_ _ _).next (ExtBut.of_ext hx1)
    clear hx1 hf z0
    clear hb hx
    have hx := hy1; clear hy1
    have hf := hb1.frozen
    obtain ⟨v1, z1⟩ := Blk.has hb1 (i := j * 8 + 1) (by (try simp only [Array.size_setIfInBounds]); rw [hz]; omega)
    obtain ⟨v2, z2⟩ := Blk.has hb1 (i := j * 8 + 2) (by (try simp only [Array.size_setIfInBounds]); rw [hz]; omega)
    obtain ⟨v3, z3⟩ := Blk.has hb1 (i := j * 8 + 3) (by (try simp only [Array.size_setIfInBounds]); rw [hz]; omega)
    go_wp2_with fail
    refine (markText_int _ (Q + 4) (by omega) _ (by omega)).mono ?_
    rintro e w4 ⟨rfl, hx4⟩
    have hb4 := (((hb1.set_ _ _).set_ _ _).set_ _ _).ext hx4
    have hy4 := (((hx.set_ _ _).set_ _ _).set_ _ _).next (ExtBut.of_ext hx4)
    clear hx4 hf z1 z2 z3
    clear hb1 hx
    have hx := hy4; clear hy4
    have hf := hb4.frozen
    obtain ⟨v4, z4⟩ := Blk.has hb4 (i := j * 8 + 4) (by (try simp only [Array.size_setIfInBounds]); rw [hz]; omega)
    obtain ⟨v5, z5⟩ := Blk.has hb4 (i := j * 8 + 5) (by (try simp only [Array.size_setIfInBounds]); rw [hz]; omega)
    go_wp2_with fail
    refine (markText_int _ (Q + 6) (by omega) _ (by omega)).mono ?_
    rintro e w6 ⟨rfl, hx6⟩
    have hb6 := ((hb4.set_ _ _).set_ _ _).ext hx6
    have hy6 := ((hx.set_ _ _).set_ _ _).next (ExtBut.of_ext hx6)
    clear hx6 hf z4 z5
    clear hb4 hx
    have hx := hy6; clear hy6
    have hf := hb6.frozen
    obtain ⟨v6, z6⟩ := Blk.has hb6 (i := j * 8 + 6) (by (try simp only [Array.size_setIfInBounds]); rw [hz]; omega)
    have z7 := (hb6.cell (j * 8 + 7)).trans ((set_get_ne (set_get_ne (set_get_ne (set_get_ne (set_get_ne (set_get_ne NZ7.out (by omega)) (by omega)) (by omega)) (by omega)) (by omega)) (by omega)))
    go_wp2_with fail
    refine (markCursorS_nil _ _).mono ?_
    rintro e w7 ⟨rfl, hx7⟩
    have hb7 := (hb6.set_ _ _).ext hx7
    have hy7 := (hx.set_ _ _).next (ExtBut.of_ext hx7)
    clear hx7 hf z6 z7
    clear hb6 hx
    have hx := hy7; clear hy7
    have hf := hb7.frozen
    have hfin := hb7
    have HX := Lib.hid hx
    have hset := Hst.out j hlt
    rw [HM.out, CliZ.mkL_at, HQ.out] at hset
    have hset2 : ((((((((((((((M).setIfInBounds (j * 8) (.int .i64 (Q : Int)))).setIfInBounds (j * 8 + 1) (.string (markB (Q + 1))))).setIfInBounds (j * 8 + 2) (.int .i64 ((Q : Int) + 2)))).setIfInBounds (j * 8 + 3) (.int .i64 ((Q : Int) + 3)))).setIfInBounds (j * 8 + 4) (.string (markB (Q + 4))))).setIfInBounds (j * 8 + 5) (.int .i64 ((Q : Int) + 5)))).setIfInBounds (j * 8 + 6) (.string (markB (Q + 6)))) = rowAt CliZ.cells 8 (CliZ.mkL k n) cs (j + 1) := by
      rw [← hset]
      show _ = ((((((((((((((((M).setIfInBounds (j * 8) (.int .i64 (Q : Int)))).setIfInBounds (j * 8 + 1) (.string (markB (Q + 1))))).setIfInBounds (j * 8 + 2) (.int .i64 ((Q : Int) + 2)))).setIfInBounds (j * 8 + 3) (.int .i64 ((Q : Int) + 3)))).setIfInBounds (j * 8 + 4) (.string (markB (Q + 4))))).setIfInBounds (j * 8 + 5) (.int .i64 ((Q : Int) + 5)))).setIfInBounds (j * 8 + 6) (.string (markB (Q + 6))))).setIfInBounds (j * 8 + 7) (.slice none 0 0))
      rw [set_same ((set_get_ne (set_get_ne (set_get_ne (set_get_ne (set_get_ne (set_get_ne (set_get_ne NZ7.out (show j * 8 ≠ j * 8 + 7 by omega)) (show j * 8 + 1 ≠ j * 8 + 7 by omega)) (show j * 8 + 2 ≠ j * 8 + 7 by omega)) (show j * 8 + 3 ≠ j * 8 + 7 by omega)) (show j * 8 + 4 ≠ j * 8 + 7 by omega)) (show j * 8 + 5 ≠ j * 8 + 7 by omega)) (show j * 8 + 6 ≠ j * 8 + 7 by omega)))]
    have HB : Hid (Blk _ g 142 (rowAt CliZ.cells 8 (CliZ.mkL k n) cs (j + 1))) := Lib.hid (by rw [← hset2]; exact hfin)
    clear hset hset2 hfin hb7 hx hz
    go_wp2_with fail
    go_roundw
    case rel => exact ⟨j + 1, by omega, by go_num, congrArg (Value.int .i64) (by have := HQ.out; omega), HB.out, HX.out⟩
    case measure => simp [intOf]; omega
set_option maxHeartbeats 4000000 in
set_option maxRecDepth 100000 in
theorem heldClientS_z (A : Option Addr) (n c k : Nat) (w : World) (hr : ReadsL w w.heap.size CliZ.cells 8 A (CliZ.mkL k n)) (hl : n ≤ 1048576) (hk : k ≤ 1099511627) :
    Calls Tryz.prog 102 #[.slice A n c, .int .i64 (k : Int)] w fun e w' => e = .returned (.int .i64 ((k + n * 7 : Nat) : Int)) ∧ Ext w w' := by
  have Hr := Lib.hid hr; clear hr
  go_enter Tryz.func102, Tryz.ntmps102
  go_wp2_with fail
  go_loopw [1, 5] (fun q i wr => ∃ (j : Nat), j ≤ n ∧ i = .int .i64 j ∧ q = .int .i64 ((k + j * 7 : Nat) : Int) ∧ Ext w wr) (fun _ i _ => n - (intOf i).toNat)
  case atStart => exact ⟨0, Nat.zero_le _, rfl, by simp, Below.refl _ _⟩
  case round =>
    obtain ⟨j, hj, rfl, rfl, he⟩ := hrel
    by_cases hlt : j < n
    case neg =>
      obtain rfl : j = n := by omega
      go_wp2_with fail
      go_ret
      exact ⟨rfl, he⟩
    have hln := CliZ.mkL_len k n
    obtain ⟨b, off, rfl, hb, hc⟩ := Reads.at_ (Hr.out.ext he) (k := j) (by rw [hln]; exact hlt)
    have hdl : (CliZ.mkL k n)[j]? = some (CliZ.mk_ (k + j * 7)) := by rw [List.getElem?_eq_getElem (by rw [hln]; exact hlt), CliZ.mkL_at]
    have hkj : k + j * 7 ≤ 1099511627700 := by have := Nat.mul_le_mul_right 7 hj; omega
    have q0 : (0 : Int) ≤ ((k + j * 7 : Nat) : Int) := by omega
    have q1 : ((k + j * 7 : Nat) : Int) ≤ 1099511627700 := by omega
    generalize hQ : k + j * 7 = Q at *
    have HQ := Lib.hid hQ
    clear hQ hln
    have C0 : ∀ w2, Ext wr w2 → w2.cell? ⟨b, off + j * 8, none⟩ = some (.int .i64 (Q : Int)) := fun w2 h2 => (h2.cell (p := ⟨b, off + j * 8, none⟩) hb).trans (hc 0 _ (flat_at _ 8 CliZ.cells_length _ j 0 _ hdl (by omega)))
    have C1 : ∀ w2, Ext wr w2 → w2.cell? ⟨b, off + j * 8 + 1, none⟩ = some (.string (markB (Q + 1))) := fun w2 h2 => (h2.cell (p := ⟨b, off + j * 8 + 1, none⟩) hb).trans (hc 1 _ (flat_at _ 8 CliZ.cells_length _ j 1 _ hdl (by omega)))
    have C2 : ∀ w2, Ext wr w2 → w2.cell? ⟨b, off + j * 8 + 2, none⟩ = some (.int .i64 ((Q : Int) + 2)) := fun w2 h2 => (h2.cell (p := ⟨b, off + j * 8 + 2, none⟩) hb).trans (hc 2 _ (flat_at _ 8 CliZ.cells_length _ j 2 _ hdl (by omega)))
    have C3 : ∀ w2, Ext wr w2 → w2.cell? ⟨b, off + j * 8 + 3, none⟩ = some (.int .i64 ((Q : Int) + 3)) := fun w2 h2 => (h2.cell (p := ⟨b, off + j * 8 + 3, none⟩) hb).trans (hc 3 _ (flat_at _ 8 CliZ.cells_length _ j 3 _ hdl (by omega)))
    have C4 : ∀ w2, Ext wr w2 → w2.cell? ⟨b, off + j * 8 + 4, none⟩ = some (.string (markB (Q + 4))) := fun w2 h2 => (h2.cell (p := ⟨b, off + j * 8 + 4, none⟩) hb).trans (hc 4 _ (flat_at _ 8 CliZ.cells_length _ j 4 _ hdl (by omega)))
    have C5 : ∀ w2, Ext wr w2 → w2.cell? ⟨b, off + j * 8 + 5, none⟩ = some (.int .i64 ((Q : Int) + 5)) := fun w2 h2 => (h2.cell (p := ⟨b, off + j * 8 + 5, none⟩) hb).trans (hc 5 _ (flat_at _ 8 CliZ.cells_length _ j 5 _ hdl (by omega)))
    have C6 : ∀ w2, Ext wr w2 → w2.cell? ⟨b, off + j * 8 + 6, none⟩ = some (.string (markB (Q + 6))) := fun w2 h2 => (h2.cell (p := ⟨b, off + j * 8 + 6, none⟩) hb).trans (hc 6 _ (flat_at _ 8 CliZ.cells_length _ j 6 _ hdl (by omega)))
    have C7 : ∀ w2, Ext wr w2 → w2.cell? ⟨b, off + j * 8 + 7, none⟩ = some (.slice none 0 0) := fun w2 h2 => (h2.cell (p := ⟨b, off + j * 8 + 7, none⟩) hb).trans (hc 7 _ (flat_at _ 8 CliZ.cells_length _ j 7 _ hdl (by omega)))
    obtain ⟨s1, hs1⟩ : ∃ s, s = markB (Q + 1) := ⟨_, rfl⟩
    rw [← hs1] at C1
    have T1 := Lib.hid hs1; clear hs1
    obtain ⟨s4, hs4⟩ : ∃ s, s = markB (Q + 4) := ⟨_, rfl⟩
    rw [← hs4] at C4
    have T4 := Lib.hid hs4; clear hs4
    obtain ⟨s6, hs6⟩ : ∃ s, s = markB (Q + 6) := ⟨_, rfl⟩
    rw [← hs6] at C6
    have T6 := Lib.hid hs6; clear hs6
    have D0 := Lib.hid C0; clear C0
    have D1 := Lib.hid C1; clear C1
    have D2 := Lib.hid C2; clear C2
    have D3 := Lib.hid C3; clear C3
    have D4 := Lib.hid C4; clear C4
    have D5 := Lib.hid C5; clear C5
    have D6 := Lib.hid C6; clear C6
    have D7 := Lib.hid C7; clear C7
    clear hc hdl
    have E0 := Below.refl wr.heap.size wr
    have H0 := Lib.hid (he.next (w2 := wr) E0)
    have d0 := D0.out _ E0
    have d1 := D1.out _ E0
    have d2 := D2.out _ E0
    have d3 := D3.out _ E0
    have d4 := D4.out _ E0
    have d5 := D5.out _ E0
    have d6 := D6.out _ E0
    have d7 := D7.out _ E0
    go_wp2_with fail
    go_region_held3 (fun w' => w'.cell? ⟨b, off + j * 8 + 1, none⟩ = some (.string s1) ∧ Ext wr w')
      (first | (exact ⟨D1.out _ (Below.drew E0), Below.drew E0⟩) | (go_split_ands; have y1 := Ext.next (by assumption) h1; exact ⟨D1.out _ y1, y1⟩))
      (first | (go_at_call 86; refine (markText_int _ (Q + 1) (by omega) _ (by omega)).mono ?_; rintro e w' ⟨he1, h1⟩; rw [← T1.out] at he1; subst he1))
    all_goals
      go_split_ands
      have e1 : Ext wr w' := by assumption
      clear d0 d1 d2 d3 d4 d5 d6 d7
      have d0 := D0.out _ e1
      have d1 := D1.out _ e1
      have d2 := D2.out _ e1
      have d3 := D3.out _ e1
      have d4 := D4.out _ e1
      have d5 := D5.out _ e1
      have d6 := D6.out _ e1
      have d7 := D7.out _ e1
      go_wp2_with fail
      go_region_held3 (fun w' => w'.cell? ⟨b, off + j * 8 + 4, none⟩ = some (.string s4) ∧ Ext wr w')
        (first | (exact ⟨D4.out _ (Below.drew e1), Below.drew e1⟩) | (go_split_ands; have y1 := Ext.next (by assumption) h1; exact ⟨D4.out _ y1, y1⟩))
        (first | (go_at_call 86; refine (markText_int _ (Q + 4) (by omega) _ (by omega)).mono ?_; rintro e w' ⟨he1, h1⟩; rw [← T4.out] at he1; subst he1))
      all_goals
        go_split_ands
        have e4 : Ext wr w' := by assumption
        clear d0 d1 d2 d3 d4 d5 d6 d7
        have d0 := D0.out _ e4
        have d1 := D1.out _ e4
        have d2 := D2.out _ e4
        have d3 := D3.out _ e4
        have d4 := D4.out _ e4
        have d5 := D5.out _ e4
        have d6 := D6.out _ e4
        have d7 := D7.out _ e4
        go_wp2_with fail
        go_region_held3 (fun w' => w'.cell? ⟨b, off + j * 8 + 6, none⟩ = some (.string s6) ∧ Ext wr w')
          (first | (exact ⟨D6.out _ (Below.drew e4), Below.drew e4⟩) | (go_split_ands; have y1 := Ext.next (by assumption) h1; exact ⟨D6.out _ y1, y1⟩))
          (first | (go_at_call 86; refine (markText_int _ (Q + 6) (by omega) _ (by omega)).mono ?_; rintro e w' ⟨he1, h1⟩; rw [← T6.out] at he1; subst he1))
        all_goals
          go_split_ands
          have e6 : Ext wr w' := by assumption
          clear d0 d1 d2 d3 d4 d5 d6 d7
          have d0 := D0.out _ e6
          have d1 := D1.out _ e6
          have d2 := D2.out _ e6
          have d3 := D3.out _ e6
          have d4 := D4.out _ e6
          have d5 := D5.out _ e6
          have d6 := D6.out _ e6
          have d7 := D7.out _ e6
          go_wp2_with fail
          refine (heldCursorS_nil _ _).mono ?_
          rintro e w7 ⟨rfl, hx7⟩
          have e7 := Ext.next e6 hx7
          clear hx7 d0 d1 d2 d3 d4 d5 d6 d7
          have d0 := D0.out _ e7
          have d1 := D1.out _ e7
          have d2 := D2.out _ e7
          have d3 := D3.out _ e7
          have d4 := D4.out _ e7
          have d5 := D5.out _ e7
          have d6 := D6.out _ e7
          have d7 := D7.out _ e7
          have H1 := Lib.hid (H0.out.next e7)
          go_wp2_with fail
          go_roundw
          case rel => exact ⟨j + 1, by omega, by go_num, congrArg (Value.int .i64) (by have := HQ.out; omega), H1.out⟩
          case measure => simp [intOf]; omega
end Go.Proofs.YtkcjhfidgnbdiaaGreat

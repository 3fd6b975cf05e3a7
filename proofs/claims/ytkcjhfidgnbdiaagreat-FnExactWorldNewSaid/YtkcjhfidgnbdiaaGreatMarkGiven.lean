/-
  What the laws' marking makes of a row of Given; markGivenS, heldGivenS: walks. Written by program (gen_mark.py). No condition.
-/
import Derived.Test.YtkcjhfidgnbdiaaGreatMarkBase
import Derived.Test.YtkcjhfidgnbdiaaGreatNamesOk
namespace Go.Proofs.YtkcjhfidgnbdiaaGreat
set_option linter.unusedSimpArgs false
open Go.RowKit
set_option linter.unusedVariables false

def GivenD.mk_ (k : Nat) : GivenD := ⟨(k : Int), ((k + 1 : Nat) : Int), ⟨markB (k + 2), ((k + 3 : Nat) : Int), ((k + 4 : Nat) : Int), markB (k + 5), markB (k + 6)⟩⟩
def GivenD.mkL (k n : Nat) : List GivenD := (List.range n).map (fun i => GivenD.mk_ (k + i * 7))
theorem GivenD.mkL_len (k n : Nat) : (GivenD.mkL k n).length = n := by simp [GivenD.mkL]
theorem GivenD.mkL_at (k n i : Nat) (h : i < (GivenD.mkL k n).length) : (GivenD.mkL k n)[i] = GivenD.mk_ (k + i * 7) := by simp [GivenD.mkL]
set_option maxHeartbeats 4000000 in
set_option maxRecDepth 100000 in
theorem markGivenS_any (g n c k : Nat) (cs : Array Value) (w : World) (hB : Blk w g 232 cs) (hn : n * 7 ≤ cs.size) (hl : n ≤ 1048576) (hk : k ≤ 1099511627) :
    Calls Tryz.prog 99 #[.slice (some ⟨g, 0, none⟩) n c, .int .i64 (k : Int)] w fun e w' => e = .returned (.int .i64 ((k + n * 7 : Nat) : Int)) ∧ Blk w' g 232 (rowAt GivenD.cells 7 (GivenD.mkL k n) cs n) ∧ ExtBut g w w' := by
  have Hn := Lib.hid hn
  have Hs := Lib.hid (fun j (hj : j ≤ n) => rowAt_size (k := j) GivenD.cells_length (l := GivenD.mkL k n) (cs := cs) (by rw [GivenD.mkL_len]; exact hn) (by rw [GivenD.mkL_len]; exact hj))
  have Hst := Lib.hid (fun j (hj : j < n) => rowAt_step (k := j) GivenD.cells_length (l := GivenD.mkL k n) (cs := cs) (by rw [GivenD.mkL_len]; exact hn) (by rw [GivenD.mkL_len]; exact hj))
  clear hn
  have B0 := Lib.hid (show Blk w g 232 (rowAt GivenD.cells 7 (GivenD.mkL k n) cs 0) by rw [rowAt_zero]; exact hB)
  clear hB
  go_enter Tryz.func99, Tryz.ntmps99
  go_wp2_with fail
  go_loopw [1, 5] (fun q i wr => ∃ (j : Nat), j ≤ n ∧ i = .int .i64 j ∧ q = .int .i64 ((k + j * 7 : Nat) : Int) ∧ Blk wr g 232 (rowAt GivenD.cells 7 (GivenD.mkL k n) cs j) ∧ ExtBut g w wr) (fun _ i _ => n - (intOf i).toNat)
  case atStart => exact ⟨0, Nat.zero_le _, rfl, by simp, B0.out, ExtBut.refl g w⟩
  case round =>
    clear B0
    obtain ⟨j, hj, rfl, rfl, hb, hx⟩ := hrel
    by_cases hlt : j < n
    case neg =>
      obtain rfl : j = n := by omega
      go_wp2_with fail
      go_ret
      exact ⟨rfl, hb, hx⟩
    have hz := Hs.out j hj
    have hn0 : j * 7 + 7 ≤ cs.size := by have := Hn.out; have := Nat.mul_le_mul_right 7 (show j + 1 ≤ n from hlt); omega
    have hkj : k + j * 7 ≤ 1099511627700 := by have := Nat.mul_le_mul_right 7 hj; omega
    generalize hM : rowAt GivenD.cells 7 (GivenD.mkL k n) cs j = M at *
    have HM := Lib.hid hM
    clear hM
    have q0 : (0 : Int) ≤ ((k + j * 7 : Nat) : Int) := by omega
    have q1 : ((k + j * 7 : Nat) : Int) ≤ 1099511627700 := by omega
    generalize hQ : k + j * 7 = Q at *
    have HQ := Lib.hid hQ
    clear hQ
    obtain ⟨v0, z0⟩ := Blk.has hb (i := j * 7) (by rw [hz]; omega)
    obtain ⟨v1, z1⟩ := Blk.has hb (i := j * 7 + 1) (by rw [hz]; omega)
    have hf := hb.frozen
    go_wp2_with fail
    refine (markText_int _ (Q + 2) (by omega) _ (by omega)).mono ?_
    rintro e w2 ⟨rfl, hx2⟩
    have hb2 := ((hb.set_ _ _).set_ _ _).ext hx2
    have hy2 := ((hx.set_ _ _).set_ _ _).next (ExtBut.of_ext hx2)
    clear hx2 hf z0 z1
    clear hb hx
    have hx := hy2; clear hy2
    obtain ⟨v2, z2⟩ := Blk.has hb2 (i := j * 7 + 2) (by (try simp only [Array.size_setIfInBounds]); rw [hz]; omega)
    have hf := hb2.frozen
    obtain ⟨v3, z3⟩ := Blk.has hb2 (i := j * 7 + 3) (by (try simp only [Array.size_setIfInBounds]); rw [hz]; omega)
    obtain ⟨v4, z4⟩ := Blk.has hb2 (i := j * 7 + 4) (by (try simp only [Array.size_setIfInBounds]); rw [hz]; omega)
    go_wp2_with fail
    refine (markText_int _ (Q + 5) (by omega) _ (by omega)).mono ?_
    rintro e w5 ⟨rfl, hx5⟩
    have hb5 := (((hb2.set_ _ _).set_ _ _).set_ _ _).ext hx5
    have hy5 := (((hx.set_ _ _).set_ _ _).set_ _ _).next (ExtBut.of_ext hx5)
    clear hx5 hf z2 z3 z4
    clear hb2 hx
    have hx := hy5; clear hy5
    obtain ⟨v5, z5⟩ := Blk.has hb5 (i := j * 7 + 5) (by (try simp only [Array.size_setIfInBounds]); rw [hz]; omega)
    have hf := hb5.frozen
    go_wp2_with fail
    refine (markText_int _ (Q + 6) (by omega) _ (by omega)).mono ?_
    rintro e w6 ⟨rfl, hx6⟩
    have hb6 := (hb5.set_ _ _).ext hx6
    have hy6 := (hx.set_ _ _).next (ExtBut.of_ext hx6)
    clear hx6 hf z5
    clear hb5 hx
    have hx := hy6; clear hy6
    obtain ⟨v6, z6⟩ := Blk.has hb6 (i := j * 7 + 6) (by (try simp only [Array.size_setIfInBounds]); rw [hz]; omega)
    have hf := hb6.frozen
    have hfin := (hb6.set_ (j * 7 + 6) (.string (markB (Q + 6))))
    have HX := Lib.hid (hx.set_ (j * 7 + 6) (.string (markB (Q + 6))))
    have hset := Hst.out j hlt
    rw [HM.out, GivenD.mkL_at, HQ.out] at hset
    have HB : Hid (Blk _ g 232 (rowAt GivenD.cells 7 (GivenD.mkL k n) cs (j + 1))) := Lib.hid (by rw [← hset]; exact hfin)
    clear hset hfin hb6 hx hz
    go_wp2_with fail
    go_roundw
    case rel => exact ⟨j + 1, by omega, by go_num, congrArg (Value.int .i64) (by have := HQ.out; omega), HB.out, HX.out⟩
    case measure => simp [intOf]; omega
set_option maxHeartbeats 4000000 in
set_option maxRecDepth 100000 in
theorem heldGivenS_any (A : Option Addr) (n c k : Nat) (w : World) (hr : ReadsL w w.heap.size GivenD.cells 7 A (GivenD.mkL k n)) (hl : n ≤ 1048576) (hk : k ≤ 1099511627) :
    Calls Tryz.prog 103 #[.slice A n c, .int .i64 (k : Int)] w fun e w' => e = .returned (.int .i64 ((k + n * 7 : Nat) : Int)) ∧ Ext w w' := by
  have Hr := Lib.hid hr; clear hr
  go_enter Tryz.func103, Tryz.ntmps103
  go_wp2_with fail
  go_loopw [1, 5] (fun q i wr => ∃ (j : Nat), j ≤ n ∧ i = .int .i64 j ∧ q = .int .i64 ((k + j * 7 : Nat) : Int) ∧ Ext w wr) (fun _ i _ => n - (intOf i).toNat)
  case atStart => exact ⟨0, Nat.zero_le _, rfl, by simp, Below.refl _ _⟩
  case round =>
    obtain ⟨j, hj, rfl, rfl, he⟩ := hrel
    by_cases hlt : j < n
    case neg =>
      obtain rfl : j = n := by omega
      go_wp2_with fail
      go_ret
      exact ⟨rfl, he⟩
    have hln := GivenD.mkL_len k n
    obtain ⟨b, off, rfl, hb, hc⟩ := Reads.at_ (Hr.out.ext he) (k := j) (by rw [hln]; exact hlt)
    have hdl : (GivenD.mkL k n)[j]? = some (GivenD.mk_ (k + j * 7)) := by rw [List.getElem?_eq_getElem (by rw [hln]; exact hlt), GivenD.mkL_at]
    have hkj : k + j * 7 ≤ 1099511627700 := by have := Nat.mul_le_mul_right 7 hj; omega
    have q0 : (0 : Int) ≤ ((k + j * 7 : Nat) : Int) := by omega
    have q1 : ((k + j * 7 : Nat) : Int) ≤ 1099511627700 := by omega
    generalize hQ : k + j * 7 = Q at *
    have HQ := Lib.hid hQ
    clear hQ hln
    have C0 : ∀ w2, Ext wr w2 → w2.cell? ⟨b, off + j * 7, none⟩ = some (.int .i64 (Q : Int)) := fun w2 h2 => (h2.cell (p := ⟨b, off + j * 7, none⟩) hb).trans (hc 0 _ (flat_at _ 7 GivenD.cells_length _ j 0 _ hdl (by omega)))
    have C1 : ∀ w2, Ext wr w2 → w2.cell? ⟨b, off + j * 7 + 1, none⟩ = some (.int .i64 ((Q : Int) + 1)) := fun w2 h2 => (h2.cell (p := ⟨b, off + j * 7 + 1, none⟩) hb).trans (hc 1 _ (flat_at _ 7 GivenD.cells_length _ j 1 _ hdl (by omega)))
    have C2 : ∀ w2, Ext wr w2 → w2.cell? ⟨b, off + j * 7 + 2, none⟩ = some (.string (markB (Q + 2))) := fun w2 h2 => (h2.cell (p := ⟨b, off + j * 7 + 2, none⟩) hb).trans (hc 2 _ (flat_at _ 7 GivenD.cells_length _ j 2 _ hdl (by omega)))
    have C3 : ∀ w2, Ext wr w2 → w2.cell? ⟨b, off + j * 7 + 3, none⟩ = some (.int .i64 ((Q : Int) + 3)) := fun w2 h2 => (h2.cell (p := ⟨b, off + j * 7 + 3, none⟩) hb).trans (hc 3 _ (flat_at _ 7 GivenD.cells_length _ j 3 _ hdl (by omega)))
    have C4 : ∀ w2, Ext wr w2 → w2.cell? ⟨b, off + j * 7 + 4, none⟩ = some (.int .i64 ((Q : Int) + 4)) := fun w2 h2 => (h2.cell (p := ⟨b, off + j * 7 + 4, none⟩) hb).trans (hc 4 _ (flat_at _ 7 GivenD.cells_length _ j 4 _ hdl (by omega)))
    have C5 : ∀ w2, Ext wr w2 → w2.cell? ⟨b, off + j * 7 + 5, none⟩ = some (.string (markB (Q + 5))) := fun w2 h2 => (h2.cell (p := ⟨b, off + j * 7 + 5, none⟩) hb).trans (hc 5 _ (flat_at _ 7 GivenD.cells_length _ j 5 _ hdl (by omega)))
    have C6 : ∀ w2, Ext wr w2 → w2.cell? ⟨b, off + j * 7 + 6, none⟩ = some (.string (markB (Q + 6))) := fun w2 h2 => (h2.cell (p := ⟨b, off + j * 7 + 6, none⟩) hb).trans (hc 6 _ (flat_at _ 7 GivenD.cells_length _ j 6 _ hdl (by omega)))
    obtain ⟨s2, hs2⟩ : ∃ s, s = markB (Q + 2) := ⟨_, rfl⟩
    rw [← hs2] at C2
    have T2 := Lib.hid hs2; clear hs2
    obtain ⟨s5, hs5⟩ : ∃ s, s = markB (Q + 5) := ⟨_, rfl⟩
    rw [← hs5] at C5
    have T5 := Lib.hid hs5; clear hs5
    obtain ⟨s6, hs6⟩ : ∃ s, s = markB (Q + 6) := ⟨_, rfl⟩
    rw [← hs6] at C6
    have T6 := Lib.hid hs6; clear hs6
    have D0 := Lib.hid C0; clear C0
    have D1 := Lib.hid C1; clear C1
    have D2 := Lib.hid C2; clear C2
    have D3 := Lib.hid C3; clear C3
    have D4 := Lib.hid C4; clear C4
    have D5 := Lib.hid C5; clear C5
    have D6 := Lib.hid C6; clear C6
    clear hc hdl
    have E0 := Below.refl wr.heap.size wr
    have H0 := Lib.hid (he.next (w2 := wr) E0)
    have d0 := D0.out _ E0
    have d1 := D1.out _ E0
    have d2 := D2.out _ E0
    have d3 := D3.out _ E0
    have d4 := D4.out _ E0
    have d5 := D5.out _ E0
    have d6 := D6.out _ E0
    go_wp2_with fail
    go_region_held3 (fun w' => w'.cell? ⟨b, off + j * 7 + 2, none⟩ = some (.string s2) ∧ Ext wr w')
      (first | (exact ⟨D2.out _ (Below.drew E0), Below.drew E0⟩) | (go_split_ands; have y1 := Ext.next (by assumption) h1; exact ⟨D2.out _ y1, y1⟩))
      (first | (go_at_call 86; refine (markText_int _ (Q + 2) (by omega) _ (by omega)).mono ?_; rintro e w' ⟨he1, h1⟩; rw [← T2.out] at he1; subst he1))
    all_goals
      go_split_ands
      have e2 : Ext wr w' := by assumption
      clear d0 d1 d2 d3 d4 d5 d6
      have d0 := D0.out _ e2
      have d1 := D1.out _ e2
      have d2 := D2.out _ e2
      have d3 := D3.out _ e2
      have d4 := D4.out _ e2
      have d5 := D5.out _ e2
      have d6 := D6.out _ e2
      go_wp2_with fail
      go_region_held3 (fun w' => w'.cell? ⟨b, off + j * 7 + 5, none⟩ = some (.string s5) ∧ Ext wr w')
        (first | (exact ⟨D5.out _ (Below.drew e2), Below.drew e2⟩) | (go_split_ands; have y1 := Ext.next (by assumption) h1; exact ⟨D5.out _ y1, y1⟩))
        (first | (go_at_call 86; refine (markText_int _ (Q + 5) (by omega) _ (by omega)).mono ?_; rintro e w' ⟨he1, h1⟩; rw [← T5.out] at he1; subst he1))
      all_goals
        go_split_ands
        have e5 : Ext wr w' := by assumption
        clear d0 d1 d2 d3 d4 d5 d6
        have d0 := D0.out _ e5
        have d1 := D1.out _ e5
        have d2 := D2.out _ e5
        have d3 := D3.out _ e5
        have d4 := D4.out _ e5
        have d5 := D5.out _ e5
        have d6 := D6.out _ e5
        go_wp2_with fail
        go_region_held3 (fun w' => w'.cell? ⟨b, off + j * 7 + 6, none⟩ = some (.string s6) ∧ Ext wr w')
          (first | (exact ⟨D6.out _ (Below.drew e5), Below.drew e5⟩) | (go_split_ands; have y1 := Ext.next (by assumption) h1; exact ⟨D6.out _ y1, y1⟩))
          (first | (go_at_call 86; refine (markText_int _ (Q + 6) (by omega) _ (by omega)).mono ?_; rintro e w' ⟨he1, h1⟩; rw [← T6.out] at he1; subst he1))
        all_goals
          go_split_ands
          have e6 : Ext wr w' := by assumption
          clear d0 d1 d2 d3 d4 d5 d6
          have d0 := D0.out _ e6
          have d1 := D1.out _ e6
          have d2 := D2.out _ e6
          have d3 := D3.out _ e6
          have d4 := D4.out _ e6
          have d5 := D5.out _ e6
          have d6 := D6.out _ e6
          have H1 := Lib.hid (H0.out.next e6)
          go_wp2_with fail
          go_roundw
          case rel => exact ⟨j + 1, by omega, by go_num, congrArg (Value.int .i64) (by have := HQ.out; omega), H1.out⟩
          case measure => simp [intOf]; omega
end Go.Proofs.YtkcjhfidgnbdiaaGreat

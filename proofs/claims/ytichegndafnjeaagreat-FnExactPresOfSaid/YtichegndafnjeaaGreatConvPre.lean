/-
  What the laws' marking makes of a row of Pre; markPreS, heldPreS: walks. Written by program (gen_mark.py). No condition.
  markPreS, heldPreS at a row of the call's own, nil or not. Written by program (gen_markown.py). No condition.
  The laws' own copying and comparing functions at Pre: walks. Written by program (gen_conv.py). No condition.
-/
import Derived.Test.YtichegndafnjeaaGreatMarkBase
import Derived.Test.YtichegndafnjeaaGreatTypes
import Derived.Test.YtichegndafnjeaaGreatReread
import Derived.StillTailTactics
namespace Go.Proofs.YtichegndafnjeaaGreat
open Go.RowKit
set_option linter.unusedVariables false

def PreD.mk_ (k : Nat) : PreD := ⟨(k : Int), markB (k + 1)⟩
def PreD.mkL (k n : Nat) : List PreD := (List.range n).map (fun i => PreD.mk_ (k + i * 2))
theorem PreD.mkL_len (k n : Nat) : (PreD.mkL k n).length = n := by simp [PreD.mkL]
theorem PreD.mkL_at (k n i : Nat) (h : i < (PreD.mkL k n).length) : (PreD.mkL k n)[i] = PreD.mk_ (k + i * 2) := by simp [PreD.mkL]
set_option maxHeartbeats 4000000 in
set_option maxRecDepth 100000 in
theorem markPreS_any (g n c k : Nat) (cs : Array Value) (w : World) (hB : Blk w g 25 cs) (hn : n * 2 ≤ cs.size) (hl : n ≤ 1048576) (hk : k ≤ 1099511627) :
    Calls Tryz.prog 19 #[.slice (some ⟨g, 0, none⟩) n c, .int .i64 (k : Int)] w fun e w' => e = .returned (.int .i64 ((k + n * 2 : Nat) : Int)) ∧ Blk w' g 25 (rowAt PreD.cells 2 (PreD.mkL k n) cs n) ∧ ExtBut g w w' := by
  have Hn := Lib.hid hn
  have Hs := Lib.hid (fun j (hj : j ≤ n) => rowAt_size (k := j) PreD.cells_length (l := PreD.mkL k n) (cs := cs) (by rw [PreD.mkL_len]; exact hn) (by rw [PreD.mkL_len]; exact hj))
  have Hst := Lib.hid (fun j (hj : j < n) => rowAt_step (k := j) PreD.cells_length (l := PreD.mkL k n) (cs := cs) (by rw [PreD.mkL_len]; exact hn) (by rw [PreD.mkL_len]; exact hj))
  clear hn
  have B0 := Lib.hid (show Blk w g 25 (rowAt PreD.cells 2 (PreD.mkL k n) cs 0) by rw [rowAt_zero]; exact hB)
  clear hB
  go_enter Tryz.func19, Tryz.ntmps19
  go_wp2_with fail
  go_loopw [1, 5] (fun q i wr => ∃ (j : Nat), j ≤ n ∧ i = .int .i64 j ∧ q = .int .i64 ((k + j * 2 : Nat) : Int) ∧ Blk wr g 25 (rowAt PreD.cells 2 (PreD.mkL k n) cs j) ∧ ExtBut g w wr) (fun _ i _ => n - (intOf i).toNat)
  case atStart => exact ⟨0, Nat.zero_le _, rfl, by simp, B0.out, ExtBut.refl g w⟩
  case round =>
    clear B0
    obtain ⟨j, hj, rfl, rfl, hb, hx⟩ := hrel
    by_cases hlt : j < n
    case neg =>
      obtain rfl : j = n := by omega
      go_wp2_with fail
      go_ret
      exact ⟨rfl, hb, hx⟩
    have hz := Hs.out j hj
    have hn0 : j * 2 + 2 ≤ cs.size := by have := Hn.out; have := Nat.mul_le_mul_right 2 (show j + 1 ≤ n from hlt); omega
    have hkj : k + j * 2 ≤ 1099511627700 := by have := Nat.mul_le_mul_right 2 hj; omega
    generalize hM : rowAt PreD.cells 2 (PreD.mkL k n) cs j = M at *
    have HM := Lib.hid hM
    clear hM
    have q0 : (0 : Int) ≤ ((k + j * 2 : Nat) : Int) := by omega
    have q1 : ((k + j * 2 : Nat) : Int) ≤ 1099511627700 := by omega
    generalize hQ : k + j * 2 = Q at *
    have HQ := Lib.hid hQ
    clear hQ
    obtain ⟨v0, z0⟩ := Blk.has hb (i := j * 2) (by rw [hz]; omega)
    have hf := hb.frozen
    go_wp2_with fail
    refine (markText_int _ (Q + 1) (by omega) _ (by omega)).mono ?_
    rintro e w1 ⟨rfl, hx1⟩
    have hb1 := (hb.set_ _ _).ext hx1
    have hy1 := (hx.set_ _ _).next (ExtBut.of_ext hx1)
    clear hx1 hf z0
    clear hb hx
    have hx := hy1; clear hy1
    obtain ⟨v1, z1⟩ := Blk.has hb1 (i := j * 2 + 1) (by (try simp only [Array.size_setIfInBounds]); rw [hz]; omega)
    have hf := hb1.frozen
    have hfin := (hb1.set_ (j * 2 + 1) (.string (markB (Q + 1))))
    have HX := Lib.hid (hx.set_ (j * 2 + 1) (.string (markB (Q + 1))))
    have hset := Hst.out j hlt
    rw [HM.out, PreD.mkL_at, HQ.out] at hset
    have HB : Hid (Blk _ g 25 (rowAt PreD.cells 2 (PreD.mkL k n) cs (j + 1))) := Lib.hid (by rw [← hset]; exact hfin)
    clear hset hfin hb1 hx hz
    go_wp2_with fail
    go_roundw
    case rel => exact ⟨j + 1, by omega, by go_num, congrArg (Value.int .i64) (by have := HQ.out; omega), HB.out, HX.out⟩
    case measure => simp [intOf]; omega
set_option maxHeartbeats 4000000 in
set_option maxRecDepth 100000 in
theorem heldPreS_any (A : Option Addr) (n c k : Nat) (w : World) (hr : ReadsL w w.heap.size PreD.cells 2 A (PreD.mkL k n)) (hl : n ≤ 1048576) (hk : k ≤ 1099511627) :
    Calls Tryz.prog 20 #[.slice A n c, .int .i64 (k : Int)] w fun e w' => e = .returned (.int .i64 ((k + n * 2 : Nat) : Int)) ∧ Ext w w' := by
  have Hr := Lib.hid hr; clear hr
  go_enter Tryz.func20, Tryz.ntmps20
  go_wp2_with fail
  go_loopw [1, 5] (fun q i wr => ∃ (j : Nat), j ≤ n ∧ i = .int .i64 j ∧ q = .int .i64 ((k + j * 2 : Nat) : Int) ∧ Ext w wr) (fun _ i _ => n - (intOf i).toNat)
  case atStart => exact ⟨0, Nat.zero_le _, rfl, by simp, Below.refl _ _⟩
  case round =>
    obtain ⟨j, hj, rfl, rfl, he⟩ := hrel
    by_cases hlt : j < n
    case neg =>
      obtain rfl : j = n := by omega
      go_wp2_with fail
      go_ret
      exact ⟨rfl, he⟩
    have hln := PreD.mkL_len k n
    obtain ⟨b, off, rfl, hb, hc⟩ := Reads.at_ (Hr.out.ext he) (k := j) (by rw [hln]; exact hlt)
    have hdl : (PreD.mkL k n)[j]? = some (PreD.mk_ (k + j * 2)) := by rw [List.getElem?_eq_getElem (by rw [hln]; exact hlt), PreD.mkL_at]
    have hkj : k + j * 2 ≤ 1099511627700 := by have := Nat.mul_le_mul_right 2 hj; omega
    have q0 : (0 : Int) ≤ ((k + j * 2 : Nat) : Int) := by omega
    have q1 : ((k + j * 2 : Nat) : Int) ≤ 1099511627700 := by omega
    generalize hQ : k + j * 2 = Q at *
    have HQ := Lib.hid hQ
    clear hQ hln
    have C0 : ∀ w2, Ext wr w2 → w2.cell? ⟨b, off + j * 2, none⟩ = some (.int .i64 (Q : Int)) := fun w2 h2 => (h2.cell (p := ⟨b, off + j * 2, none⟩) hb).trans (hc 0 _ (flat_at _ 2 PreD.cells_length _ j 0 _ hdl (by omega)))
    have C1 : ∀ w2, Ext wr w2 → w2.cell? ⟨b, off + j * 2 + 1, none⟩ = some (.string (markB (Q + 1))) := fun w2 h2 => (h2.cell (p := ⟨b, off + j * 2 + 1, none⟩) hb).trans (hc 1 _ (flat_at _ 2 PreD.cells_length _ j 1 _ hdl (by omega)))
    obtain ⟨s1, hs1⟩ : ∃ s, s = markB (Q + 1) := ⟨_, rfl⟩
    rw [← hs1] at C1
    have T1 := Lib.hid hs1; clear hs1
    have D0 := Lib.hid C0; clear C0
    have D1 := Lib.hid C1; clear C1
    clear hc hdl
    have E0 := Below.refl wr.heap.size wr
    have H0 := Lib.hid (he.next (w2 := wr) E0)
    have d0 := D0.out _ E0
    have d1 := D1.out _ E0
    go_wp2_with fail
    go_region_held3 (fun w' => w'.cell? ⟨b, off + j * 2 + 1, none⟩ = some (.string s1) ∧ Ext wr w')
      (first | (exact ⟨D1.out _ (Below.drew E0), Below.drew E0⟩) | (go_split_ands; have y1 := Ext.next (by assumption) h1; exact ⟨D1.out _ y1, y1⟩))
      (first | (go_at_call 55; refine (markText_int _ (Q + 1) (by omega) _ (by omega)).mono ?_; rintro e w' ⟨he1, h1⟩; rw [← T1.out] at he1; subst he1))
    all_goals
      go_split_ands
      have e1 : Ext wr w' := by assumption
      clear d0 d1
      have d0 := D0.out _ e1
      have d1 := D1.out _ e1
      have H1 := Lib.hid (H0.out.next e1)
      go_wp2_with fail
      go_roundw
      case rel => exact ⟨j + 1, by omega, by go_num, congrArg (Value.int .i64) (by have := HQ.out; omega), H1.out⟩
      case measure => simp [intOf]; omega
end Go.Proofs.YtichegndafnjeaaGreat
namespace Go.Proofs.YtichegndafnjeaaGreat
open Go.RowKit
set_option linter.unusedVariables false

theorem markPreS_nil (k : Int) (w : World) : Calls Tryz.prog 19 #[.slice none 0 0, .int .i64 k] w fun e w' => e = .returned (.int .i64 k) ∧ Ext w w' := by
  go_enter Tryz.func19, Tryz.ntmps19
  go_wp2_with fail
  refine wp_loop_rounds 1 ?_
  rw [rounds_succ]
  go_wp2_with fail
  go_ret
  exact ⟨rfl, Below.refl _ _⟩
theorem markPreS_own {W w : World} {v : Value} {l : List PreD} (h : OwnF PreD.cells 2 25 W w v l) (hW : W.heap.size ≤ w.heap.size) (hl : l.length ≤ 1048576) :
    Calls Tryz.prog 19 #[v, .int .i64 1] w fun e w' => e = .returned (.int .i64 ((1 + l.length * 2 : Nat) : Int)) ∧ (∃ A c, v = .slice A l.length c ∧ ReadsL w' w'.heap.size PreD.cells 2 A (PreD.mkL 1 l.length)) ∧ Below W.heap.size w w' := by
  rcases h.2 with ⟨h1, h2⟩ | ⟨g, cap, cur, hv, hg, hh, hnc, hm, hs, ht⟩
  · rw [h1, h2]
    refine (markPreS_nil 1 w).mono ?_
    rintro e w' ⟨rfl, h3⟩
    exact ⟨rfl, ⟨none, 0, rfl, by simp [PreD.mkL]; exact Reads.nil_⟩, h3.mono hW⟩
  · rw [hv]
    refine (markPreS_any g l.length cap 1 cur w hh (by rw [hs]; exact Nat.mul_le_mul_right _ hnc) hl (by decide)).mono ?_
    rintro e w' ⟨rfl, h3, h4⟩
    refine ⟨rfl, ⟨_, cap, rfl, ?_⟩, ⟨h4.os, h4.tape, h4.output, h4.size, fun b hb => h4.block b (by omega) (by simp; omega)⟩⟩
    have := rowAt_reads (l := PreD.mkL 1 l.length) (cs := cur) PreD.cells_length (w := w') (g := g) (t := 25) (by rw [PreD.mkL_len]; exact h3)
    exact this
end Go.Proofs.YtichegndafnjeaaGreat
namespace Go.Proofs.YtichegndafnjeaaGreat
open Go.RowKit
set_option linter.unusedVariables false

def PreD.lens (d : PreD) : List Nat := [d.text.size]
theorem eqPre_same (d : PreD) (w : World) :
    Calls Tryz.prog 10 #[.agg #[.int .i64 d.tag, .string d.text], .agg #[.int .i64 d.tag, .string d.text]] w fun e w' => e = .returned (.bool true) ∧ Ext w w' := by
  go_enter Tryz.func10, Tryz.ntmps10
  go_wp2
  go_ret
  exact ⟨rfl, by go_grown⟩
set_option maxHeartbeats 1000000 in
set_option maxRecDepth 100000 in
theorem eqPreS_same (A A' : Option Addr) (c c' : Nat) (l : List PreD) (w : World) (hr : ReadsL w w.heap.size PreD.cells 2 A l) (hr' : ReadsL w w.heap.size PreD.cells 2 A' l) (hl : l.length ≤ 1048576) :
    Calls Tryz.prog 16 #[.slice A l.length c, .slice A' l.length c'] w fun e w' => e = .returned (.bool true) ∧ Ext w w' := by
  go_enter Tryz.func16, Tryz.ntmps16
  go_wp2
  go_loopw [5] (fun i wr => ∃ (k : Nat), k ≤ l.length ∧ i = .int .i64 k ∧ Ext w wr) (fun i _ => l.length - (intOf i).toNat)
  case atStart => exact ⟨0, Nat.zero_le _, rfl, Below.refl _ _⟩
  case round =>
    obtain ⟨k, hk, rfl, he⟩ := hrel
    by_cases hlt : k < l.length
    · obtain ⟨b, off, rfl, hb, hc⟩ := (hr.below he).at_ (k := k) hlt
      obtain ⟨b', off', rfl, hb', hc'⟩ := (hr'.below he).at_ (k := k) hlt
      obtain ⟨d, hd⟩ : ∃ d, d = l[k] := ⟨_, rfl⟩
      have hdl : l[k]? = some d := by rw [hd]; exact List.getElem?_eq_getElem hlt
      have c0 := hc 0 _ (flat_at _ 2 PreD.cells_length l k 0 d hdl (by omega))
      have c1 := hc 1 _ (flat_at _ 2 PreD.cells_length l k 1 d hdl (by omega))
      have b0 := hc' 0 _ (flat_at _ 2 PreD.cells_length l k 0 d hdl (by omega))
      have b1 := hc' 1 _ (flat_at _ 2 PreD.cells_length l k 1 d hdl (by omega))
      rw [Nat.add_zero] at c0 b0
      clear hc hc' hd hdl
      go_wp2_with fail
      go_still_tail 8, (by kernel_rfl)
      change wpList _ _ _ _ _ wr.drew
      generalize hw : wr.drew = w2
      have he2 : Ext w w2 := by rw [← hw]; exact he.drew
      clear hw he
      go_wp2_with fail
      refine (eqPre_same d _).mono ?_
      rintro e w1 ⟨rfl, h1⟩
      replace he2 := he2.next h1; clear h1 c0 c1 b0 b1
      go_wp2_with fail
      go_roundw
      case rel => exact ⟨k + 1, by omega, by go_num, he2⟩
      case measure => simp [intOf]; omega
    · go_wp2_with fail
      go_ret
      exact ⟨rfl, he⟩
end Go.Proofs.YtichegndafnjeaaGreat

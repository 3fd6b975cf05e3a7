/-
  markHeadS, heldHeadS at a row of the call's own, nil or not. Written by program (gen_markown.py). No condition.
  What the laws' marking makes of a row of Write; markWriteS, heldWriteS: walks. Written by program (gen_mark.py). No condition.
  markWriteS, heldWriteS at a row of the call's own, nil or not. Written by program (gen_markown.py). No condition.
  markStringS, heldStringS: walks. No condition.
  markStringS, heldStringS at a row of the call's own, nil or not. No condition.
-/
import Derived.Test.YtkcjhfidgnbdiaaGreatMarkHead
import Derived.Test.YtkcjhfidgnbdiaaGreatAppSrc
import Derived.Test.YtkcjhfidgnbdiaaGreatMarkBase
import Derived.Test.YtkcjhfidgnbdiaaGreatNamesOk
namespace Go.Proofs.YtkcjhfidgnbdiaaGreat
set_option linter.unusedSimpArgs false
open Go.RowKit
set_option linter.unusedVariables false

theorem markHeadS_nil (k : Int) (w : World) : Calls Tryz.prog 84 #[.slice none 0 0, .int .i64 k] w fun e w' => e = .returned (.int .i64 k) ∧ Ext w w' := by
  go_enter Tryz.func84, Tryz.ntmps84
  go_wp2_with fail
  refine wp_loop_rounds 1 ?_
  rw [rounds_succ]
  go_wp2_with fail
  go_ret
  exact ⟨rfl, Below.refl _ _⟩
theorem markHeadS_own {W w : World} {v : Value} {l : List HeadD} (h : OwnF HeadD.cells 5 33 W w v l) (hW : W.heap.size ≤ w.heap.size) (hl : l.length ≤ 1048576) :
    Calls Tryz.prog 84 #[v, .int .i64 1] w fun e w' => e = .returned (.int .i64 ((1 + l.length * 5 : Nat) : Int)) ∧ (∃ A c, v = .slice A l.length c ∧ ReadsL w' w'.heap.size HeadD.cells 5 A (HeadD.mkL 1 l.length)) ∧ Below W.heap.size w w' := by
  rcases h.2 with ⟨h1, h2⟩ | ⟨g, cap, cur, hv, hg, hh, hnc, hm, hs, ht⟩
  · rw [h1, h2]
    refine (markHeadS_nil 1 w).mono ?_
    rintro e w' ⟨rfl, h3⟩
    exact ⟨rfl, ⟨none, 0, rfl, by simp [HeadD.mkL]; exact Reads.nil_⟩, h3.mono hW⟩
  · rw [hv]
    refine (markHeadS_any g l.length cap 1 cur w hh (by rw [hs]; exact Nat.mul_le_mul_right _ hnc) hl (by decide)).mono ?_
    rintro e w' ⟨rfl, h3, h4⟩
    refine ⟨rfl, ⟨_, cap, rfl, ?_⟩, ⟨h4.os, h4.tape, h4.output, h4.size, fun b hb => h4.block b (by omega) (by simp; omega)⟩⟩
    have := rowAt_reads (l := HeadD.mkL 1 l.length) (cs := cur) HeadD.cells_length (w := w') (g := g) (t := 33) (by rw [HeadD.mkL_len]; exact h3)
    exact this
end Go.Proofs.YtkcjhfidgnbdiaaGreat
namespace Go.Proofs.YtkcjhfidgnbdiaaGreat
set_option linter.unusedSimpArgs false
open Go.RowKit
set_option linter.unusedVariables false

def WriteD.mk_ (k : Nat) : WriteD := ⟨(k : Int), ((k + 1 : Nat) : Int), markB (k + 2)⟩
def WriteD.mkL (k n : Nat) : List WriteD := (List.range n).map (fun i => WriteD.mk_ (k + i * 3))
theorem WriteD.mkL_len (k n : Nat) : (WriteD.mkL k n).length = n := by simp [WriteD.mkL]
theorem WriteD.mkL_at (k n i : Nat) (h : i < (WriteD.mkL k n).length) : (WriteD.mkL k n)[i] = WriteD.mk_ (k + i * 3) := by simp [WriteD.mkL]
set_option maxHeartbeats 4000000 in
set_option maxRecDepth 100000 in
theorem markWriteS_any (g n c k : Nat) (cs : Array Value) (w : World) (hB : Blk w g 157 cs) (hn : n * 3 ≤ cs.size) (hl : n ≤ 1048576) (hk : k ≤ 1099511627) :
    Calls Tryz.prog 45 #[.slice (some ⟨g, 0, none⟩) n c, .int .i64 (k : Int)] w fun e w' => e = .returned (.int .i64 ((k + n * 3 : Nat) : Int)) ∧ Blk w' g 157 (rowAt WriteD.cells 3 (WriteD.mkL k n) cs n) ∧ ExtBut g w w' := by
  have Hn := Lib.hid hn
  have Hs := Lib.hid (fun j (hj : j ≤ n) => rowAt_size (k := j) WriteD.cells_length (l := WriteD.mkL k n) (cs := cs) (by rw [WriteD.mkL_len]; exact hn) (by rw [WriteD.mkL_len]; exact hj))
  have Hst := Lib.hid (fun j (hj : j < n) => rowAt_step (k := j) WriteD.cells_length (l := WriteD.mkL k n) (cs := cs) (by rw [WriteD.mkL_len]; exact hn) (by rw [WriteD.mkL_len]; exact hj))
  clear hn
  have B0 := Lib.hid (show Blk w g 157 (rowAt WriteD.cells 3 (WriteD.mkL k n) cs 0) by rw [rowAt_zero]; exact hB)
  clear hB
  go_enter Tryz.func45, Tryz.ntmps45
  go_wp2_with fail
  go_loopw [1, 5] (fun q i wr => ∃ (j : Nat), j ≤ n ∧ i = .int .i64 j ∧ q = .int .i64 ((k + j * 3 : Nat) : Int) ∧ Blk wr g 157 (rowAt WriteD.cells 3 (WriteD.mkL k n) cs j) ∧ ExtBut g w wr) (fun _ i _ => n - (intOf i).toNat)
  case atStart => exact ⟨0, Nat.zero_le _, rfl, by simp, B0.out, ExtBut.refl g w⟩
  case round =>
    clear B0
    obtain ⟨j, hj, rfl, rfl, hb, hx⟩ := hrel
    by_cases hlt : j < n
    case neg =>
      obtain rfl : j = n := by omega
      go_wp2_with fail
      go_ret
      exact ⟨rfl, hb, hx⟩
    have hz := Hs.out j hj
    have hn0 : j * 3 + 3 ≤ cs.size := by have := Hn.out; have := Nat.mul_le_mul_right 3 (show j + 1 ≤ n from hlt); omega
    have hkj : k + j * 3 ≤ 1099511627700 := by have := Nat.mul_le_mul_right 3 hj; omega
    generalize hM : rowAt WriteD.cells 3 (WriteD.mkL k n) cs j = M at *
    have HM := Lib.hid hM
    clear hM
    have q0 : (0 : Int) ≤ ((k + j * 3 : Nat) : Int) := by omega
    have q1 : ((k + j * 3 : Nat) : Int) ≤ 1099511627700 := by omega
    generalize hQ : k + j * 3 = Q at *
    have HQ := Lib.hid hQ
    clear hQ
    obtain ⟨v0, z0⟩ := Blk.has hb (i := j * 3) (by rw [hz]; omega)
    obtain ⟨v1, z1⟩ := Blk.has hb (i := j * 3 + 1) (by rw [hz]; omega)
    have hf := hb.frozen
    go_wp2_with fail
    refine (markText_int _ (Q + 2) (by omega) _ (by omega)).mono ?_
    rintro e w2 ⟨rfl, hx2⟩
    have hb2 := ((hb.set_ _ _).set_ _ _).ext hx2
    have hy2 := ((hx.set_ _ _).set_ _ _).next (ExtBut.of_ext hx2)
    clear hx2 hf z0 z1
    clear hb hx
    have hx := hy2; clear hy2
    obtain ⟨v2, z2⟩ := Blk.has hb2 (i := j * 3 + 2) (by (try simp only [Array.size_setIfInBounds]); rw [hz]; omega)
    have hf := hb2.frozen
    have hfin := (hb2.set_ (j * 3 + 2) (.string (markB (Q + 2))))
    have HX := Lib.hid (hx.set_ (j * 3 + 2) (.string (markB (Q + 2))))
    have hset := Hst.out j hlt
    rw [HM.out, WriteD.mkL_at, HQ.out] at hset
    have HB : Hid (Blk _ g 157 (rowAt WriteD.cells 3 (WriteD.mkL k n) cs (j + 1))) := Lib.hid (by rw [← hset]; exact hfin)
    clear hset hfin hb2 hx hz
    go_wp2_with fail
    go_roundw
    case rel => exact ⟨j + 1, by omega, by go_num, congrArg (Value.int .i64) (by have := HQ.out; omega), HB.out, HX.out⟩
    case measure => simp [intOf]; omega
set_option maxHeartbeats 4000000 in
set_option maxRecDepth 100000 in
theorem heldWriteS_any (A : Option Addr) (n c k : Nat) (w : World) (hr : ReadsL w w.heap.size WriteD.cells 3 A (WriteD.mkL k n)) (hl : n ≤ 1048576) (hk : k ≤ 1099511627) :
    Calls Tryz.prog 47 #[.slice A n c, .int .i64 (k : Int)] w fun e w' => e = .returned (.int .i64 ((k + n * 3 : Nat) : Int)) ∧ Ext w w' := by
  have Hr := Lib.hid hr; clear hr
  go_enter Tryz.func47, Tryz.ntmps47
  go_wp2_with fail
  go_loopw [1, 5] (fun q i wr => ∃ (j : Nat), j ≤ n ∧ i = .int .i64 j ∧ q = .int .i64 ((k + j * 3 : Nat) : Int) ∧ Ext w wr) (fun _ i _ => n - (intOf i).toNat)
  case atStart => exact ⟨0, Nat.zero_le _, rfl, by simp, Below.refl _ _⟩
  case round =>
    obtain ⟨j, hj, rfl, rfl, he⟩ := hrel
    by_cases hlt : j < n
    case neg =>
      obtain rfl : j = n := by omega
      go_wp2_with fail
      go_ret
      exact ⟨rfl, he⟩
    have hln := WriteD.mkL_len k n
    obtain ⟨b, off, rfl, hb, hc⟩ := Reads.at_ (Hr.out.ext he) (k := j) (by rw [hln]; exact hlt)
    have hdl : (WriteD.mkL k n)[j]? = some (WriteD.mk_ (k + j * 3)) := by rw [List.getElem?_eq_getElem (by rw [hln]; exact hlt), WriteD.mkL_at]
    have hkj : k + j * 3 ≤ 1099511627700 := by have := Nat.mul_le_mul_right 3 hj; omega
    have q0 : (0 : Int) ≤ ((k + j * 3 : Nat) : Int) := by omega
    have q1 : ((k + j * 3 : Nat) : Int) ≤ 1099511627700 := by omega
    generalize hQ : k + j * 3 = Q at *
    have HQ := Lib.hid hQ
    clear hQ hln
    have C0 : ∀ w2, Ext wr w2 → w2.cell? ⟨b, off + j * 3, none⟩ = some (.int .i64 (Q : Int)) := fun w2 h2 => (h2.cell (p := ⟨b, off + j * 3, none⟩) hb).trans (hc 0 _ (flat_at _ 3 WriteD.cells_length _ j 0 _ hdl (by omega)))
    have C1 : ∀ w2, Ext wr w2 → w2.cell? ⟨b, off + j * 3 + 1, none⟩ = some (.int .i64 ((Q : Int) + 1)) := fun w2 h2 => (h2.cell (p := ⟨b, off + j * 3 + 1, none⟩) hb).trans (hc 1 _ (flat_at _ 3 WriteD.cells_length _ j 1 _ hdl (by omega)))
    have C2 : ∀ w2, Ext wr w2 → w2.cell? ⟨b, off + j * 3 + 2, none⟩ = some (.string (markB (Q + 2))) := fun w2 h2 => (h2.cell (p := ⟨b, off + j * 3 + 2, none⟩) hb).trans (hc 2 _ (flat_at _ 3 WriteD.cells_length _ j 2 _ hdl (by omega)))
    obtain ⟨s2, hs2⟩ : ∃ s, s = markB (Q + 2) := ⟨_, rfl⟩
    rw [← hs2] at C2
    have T2 := Lib.hid hs2; clear hs2
    have D0 := Lib.hid C0; clear C0
    have D1 := Lib.hid C1; clear C1
    have D2 := Lib.hid C2; clear C2
    clear hc hdl
    have E0 := Below.refl wr.heap.size wr
    have H0 := Lib.hid (he.next (w2 := wr) E0)
    have d0 := D0.out _ E0
    have d1 := D1.out _ E0
    have d2 := D2.out _ E0
    go_wp2_with fail
    go_region_held3 (fun w' => w'.cell? ⟨b, off + j * 3 + 2, none⟩ = some (.string s2) ∧ Ext wr w')
      (first | (exact ⟨D2.out _ (Below.drew E0), Below.drew E0⟩) | (go_split_ands; have y1 := Ext.next (by assumption) h1; exact ⟨D2.out _ y1, y1⟩))
      (first | (go_at_call 86; refine (markText_int _ (Q + 2) (by omega) _ (by omega)).mono ?_; rintro e w' ⟨he1, h1⟩; rw [← T2.out] at he1; subst he1))
    all_goals
      go_split_ands
      have e2 : Ext wr w' := by assumption
      clear d0 d1 d2
      have d0 := D0.out _ e2
      have d1 := D1.out _ e2
      have d2 := D2.out _ e2
      have H1 := Lib.hid (H0.out.next e2)
      go_wp2_with fail
      go_roundw
      case rel => exact ⟨j + 1, by omega, by go_num, congrArg (Value.int .i64) (by have := HQ.out; omega), H1.out⟩
      case measure => simp [intOf]; omega
end Go.Proofs.YtkcjhfidgnbdiaaGreat
namespace Go.Proofs.YtkcjhfidgnbdiaaGreat
set_option linter.unusedSimpArgs false
open Go.RowKit
set_option linter.unusedVariables false

theorem markWriteS_nil (k : Int) (w : World) : Calls Tryz.prog 45 #[.slice none 0 0, .int .i64 k] w fun e w' => e = .returned (.int .i64 k) ∧ Ext w w' := by
  go_enter Tryz.func45, Tryz.ntmps45
  go_wp2_with fail
  refine wp_loop_rounds 1 ?_
  rw [rounds_succ]
  go_wp2_with fail
  go_ret
  exact ⟨rfl, Below.refl _ _⟩
theorem markWriteS_own {W w : World} {v : Value} {l : List WriteD} (h : OwnF WriteD.cells 3 157 W w v l) (hW : W.heap.size ≤ w.heap.size) (hl : l.length ≤ 1048576) :
    Calls Tryz.prog 45 #[v, .int .i64 1] w fun e w' => e = .returned (.int .i64 ((1 + l.length * 3 : Nat) : Int)) ∧ (∃ A c, v = .slice A l.length c ∧ ReadsL w' w'.heap.size WriteD.cells 3 A (WriteD.mkL 1 l.length)) ∧ Below W.heap.size w w' := by
  rcases h.2 with ⟨h1, h2⟩ | ⟨g, cap, cur, hv, hg, hh, hnc, hm, hs, ht⟩
  · rw [h1, h2]
    refine (markWriteS_nil 1 w).mono ?_
    rintro e w' ⟨rfl, h3⟩
    exact ⟨rfl, ⟨none, 0, rfl, by simp [WriteD.mkL]; exact Reads.nil_⟩, h3.mono hW⟩
  · rw [hv]
    refine (markWriteS_any g l.length cap 1 cur w hh (by rw [hs]; exact Nat.mul_le_mul_right _ hnc) hl (by decide)).mono ?_
    rintro e w' ⟨rfl, h3, h4⟩
    refine ⟨rfl, ⟨_, cap, rfl, ?_⟩, ⟨h4.os, h4.tape, h4.output, h4.size, fun b hb => h4.block b (by omega) (by simp; omega)⟩⟩
    have := rowAt_reads (l := WriteD.mkL 1 l.length) (cs := cur) WriteD.cells_length (w := w') (g := g) (t := 157) (by rw [WriteD.mkL_len]; exact h3)
    exact this
end Go.Proofs.YtkcjhfidgnbdiaaGreat
namespace Go.Proofs.YtkcjhfidgnbdiaaGreat
set_option linter.unusedSimpArgs false
open Go.RowKit
set_option linter.unusedVariables false

def mkd (cs : Array Value) (k : Nat) : Nat → Array Value
  | 0 => cs
  | i + 1 => (mkd cs k i).setIfInBounds i (.string (markB (k + i)))
theorem mkd_size (cs : Array Value) (k : Nat) : ∀ i, (mkd cs k i).size = cs.size
  | 0 => rfl
  | i + 1 => by rw [mkd, Array.size_setIfInBounds, mkd_size cs k i]
theorem mkd_at (cs : Array Value) (k : Nat) : ∀ (i j : Nat), j < i → j < cs.size → (mkd cs k i)[j]? = some (.string (markB (k + j)))
  | 0, j, h, _ => absurd h (by omega)
  | i + 1, j, h, hs => by
    rw [mkd, Array.getElem?_setIfInBounds]
    split
    · rename_i e; subst e; rw [if_pos (by rw [mkd_size]; exact hs)]
    · exact mkd_at cs k i j (by omega) hs
set_option maxHeartbeats 1000000 in
set_option maxRecDepth 100000 in
theorem markStringS_any (g n c k : Nat) (cs : Array Value) (w : World) (hB : Blk w g 9 cs) (hn : n ≤ cs.size) (hl : n ≤ 1048576) (hk : k ≤ 1073741824) :
    Calls Tryz.prog 32 #[.slice (some ⟨g, 0, none⟩) n c, .int .i64 (k : Int)] w fun e w' => e = .returned (.int .i64 ((k + n : Nat) : Int)) ∧ Blk w' g 9 (mkd cs k n) ∧ ExtBut g w w' := by
  have Hn := Lib.hid hn
  clear hn
  go_enter Tryz.func32, Tryz.ntmps32
  go_wp2_with fail
  go_loopw [1, 5] (fun q i wr => ∃ (j : Nat), j ≤ n ∧ i = .int .i64 j ∧ q = .int .i64 ((k + j : Nat) : Int) ∧ Blk wr g 9 (mkd cs k j) ∧ ExtBut g w wr) (fun _ i _ => n - (intOf i).toNat)
  case atStart => exact ⟨0, Nat.zero_le _, rfl, rfl, hB, ExtBut.refl g w⟩
  case round =>
    clear hB
    obtain ⟨j, hj, rfl, rfl, hb, hx⟩ := hrel
    by_cases hlt : j < n
    · go_wp2_with fail
      refine (markText_any (k + j) _ (by omega)).mono ?_
      rintro e w1 ⟨rfl, h1⟩
      replace hb := hb.ext h1
      replace hx := hx.next (ExtBut.of_ext h1)
      clear h1
      have hs := mkd_size cs k j
      obtain ⟨v, hv⟩ : ∃ v, w1.cell? ⟨g, j, none⟩ = some v := by
        rw [hb.cell]
        exact ⟨_, Array.getElem?_eq_getElem (by have := Hn.out; omega)⟩
      have hf := hb.frozen j
      have HB := Lib.hid (hb.set_ j (.string (markB (k + j))))
      have HX := Lib.hid (hx.set_ j (.string (markB (k + j))))
      clear hb hx hs
      go_wp2_with fail
      go_roundw
      case rel => exact ⟨j + 1, by omega, by go_num, by go_num, HB.out, HX.out⟩
      case measure => simp [intOf]; omega
    · obtain rfl : j = n := by omega
      go_wp2_with fail
      go_ret
      exact ⟨rfl, hb, hx⟩
set_option maxHeartbeats 1000000 in
set_option maxRecDepth 100000 in
theorem heldStringS_any (g n c k : Nat) (cs : Array Value) (w : World) (hB : Blk w g 9 (mkd cs k n)) (hn : n ≤ cs.size) (hl : n ≤ 1048576) (hk : k ≤ 1073741824) :
    Calls Tryz.prog 33 #[.slice (some ⟨g, 0, none⟩) n c, .int .i64 (k : Int)] w fun e w' => e = .returned (.int .i64 ((k + n : Nat) : Int)) ∧ Ext w w' := by
  have Hn := Lib.hid hn
  clear hn
  go_enter Tryz.func33, Tryz.ntmps33
  go_wp2_with fail
  go_loopw [1, 5] (fun q i wr => ∃ (j : Nat), j ≤ n ∧ i = .int .i64 j ∧ q = .int .i64 ((k + j : Nat) : Int) ∧ Ext w wr) (fun _ i _ => n - (intOf i).toNat)
  case atStart => exact ⟨0, Nat.zero_le _, rfl, rfl, Below.refl _ _⟩
  case round =>
    obtain ⟨j, hj, rfl, rfl, he⟩ := hrel
    by_cases hlt : j < n
    · have hb := hB.ext he
      have c0 : wr.cell? ⟨g, j, none⟩ = some (.string (markB (k + j))) := by rw [hb.cell]; exact mkd_at cs k n j hlt (by have := Hn.out; omega)
      obtain ⟨y, hy⟩ : ∃ y, y = markB (k + j) := ⟨_, rfl⟩
      have Hy := Lib.hid hy
      rw [← hy] at c0
      have hcell : ∀ w', Ext w w' → w'.cell? ⟨g, j, none⟩ = some (.string y) := fun w' h => by rw [(hB.ext h).cell, hy]; exact mkd_at cs k n j hlt (by have := Hn.out; omega)
      have HC := Lib.hid hcell
      clear hb hB hy hcell
      go_wp2_with fail
      go_region_held3 (fun w' => w'.cell? ⟨g, j, none⟩ = some (.string y) ∧ Ext w w')
        (first | exact ⟨c0, he.drew⟩ | (go_split_ands; exact ⟨HC.out _ (Ext.next (by assumption) h1), Ext.next (by assumption) h1⟩))
        (first | (go_at_call 86; refine (markText_any (k + j) _ (by omega)).mono ?_; rintro e w' ⟨he1, h1⟩; rw [← Hy.out] at he1; subst he1))
      all_goals
        go_split_ands
        have he2 : Ext w w' := by assumption
        go_wp2_with fail
        go_roundw
        case rel => exact ⟨j + 1, by omega, by go_num, by go_num, he2⟩
        case measure => simp [intOf]; omega
    · obtain rfl : j = n := by omega
      go_wp2_with fail
      go_ret
      exact ⟨rfl, he⟩
end Go.Proofs.YtkcjhfidgnbdiaaGreat
namespace Go.Proofs.YtkcjhfidgnbdiaaGreat
set_option linter.unusedSimpArgs false
open Go.RowKit
set_option linter.unusedVariables false

def Marked (w : World) (v : Value) (n : Nat) : Prop := (v = .slice none 0 0 ∧ n = 0) ∨ ∃ g c cs, v = .slice (some ⟨g, 0, none⟩) n c ∧ Blk w g 9 (mkd cs 1 n) ∧ n ≤ cs.size
theorem Marked.ext {w w' : World} {v : Value} {n : Nat} (h : Marked w v n) (he : Ext w w') : Marked w' v n := by
  rcases h with h | ⟨g, c, cs, h1, h2, h3⟩
  · exact .inl h
  · exact .inr ⟨g, c, cs, h1, h2.ext he, h3⟩
theorem markStringS_nil (k : Int) (w : World) : Calls Tryz.prog 32 #[.slice none 0 0, .int .i64 k] w fun e w' => e = .returned (.int .i64 k) ∧ Ext w w' := by
  go_enter Tryz.func32, Tryz.ntmps32
  go_wp2_with fail
  refine wp_loop_rounds 1 ?_
  rw [rounds_succ]
  go_wp2_with fail
  go_ret
  exact ⟨rfl, Below.refl _ _⟩
theorem heldStringS_nil (k : Int) (w : World) : Calls Tryz.prog 33 #[.slice none 0 0, .int .i64 k] w fun e w' => e = .returned (.int .i64 k) ∧ Ext w w' := by
  go_enter Tryz.func33, Tryz.ntmps33
  go_wp2_with fail
  refine wp_loop_rounds 1 ?_
  rw [rounds_succ]
  go_wp2_with fail
  go_ret
  exact ⟨rfl, Below.refl _ _⟩
theorem mark_own {W w : World} {v : Value} {l : List ByteArray} (h : OwnS W w v l) (hl : l.length ≤ 1000) (he : Ext W w) :
    Calls Tryz.prog 32 #[v, .int .i64 1] w fun e w' => e = .returned (.int .i64 ((1 + l.length : Nat) : Int)) ∧ Marked w' v l.length ∧ Ext W w' := by
  rcases h.2 with ⟨h1, h2⟩ | ⟨g, cap, cur, hv, hg, hh, hnc, hm, hs, ht⟩
  · rw [h1]
    refine (markStringS_nil 1 w).mono ?_
    rintro e w' ⟨rfl, h3⟩
    refine ⟨by rw [h2]; rfl, .inl ⟨rfl, h2⟩, he.next h3⟩
  · rw [hv]
    have hn : l.length ≤ cur.size := by rw [hs]; omega
    refine (markStringS_any g l.length cap 1 cur w hh hn (by omega) (by decide)).mono ?_
    rintro e w' ⟨rfl, h3, h4⟩
    exact ⟨rfl, .inr ⟨g, cap, cur, rfl, h3, hn⟩, he.nextBut hg h4⟩
theorem held_own {w : World} {v : Value} {n : Nat} (h : Marked w v n) (hl : n ≤ 1000) :
    Calls Tryz.prog 33 #[v, .int .i64 1] w fun e w' => e = .returned (.int .i64 ((1 + n : Nat) : Int)) ∧ Ext w w' := by
  rcases h with ⟨rfl, rfl⟩ | ⟨g, c, cs, rfl, h2, h3⟩
  · exact heldStringS_nil 1 w
  · exact heldStringS_any g n c 1 cs w h2 h3 (by omega) (by decide)
end Go.Proofs.YtkcjhfidgnbdiaaGreat

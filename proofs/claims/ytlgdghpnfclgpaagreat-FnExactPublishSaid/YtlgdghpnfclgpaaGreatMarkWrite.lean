/-
  MarkOwnEntry; MarkReceipt; MarkOwnReceipt; MarkHead; MarkOwnHead; MarkWrite: No condition.
-/
import Derived.Test.YtlgdghpnfclgpaaGreatMarkEntry
import Derived.Test.YtlgdghpnfclgpaaGreatAppSrc
import Derived.Test.YtlgdghpnfclgpaaGreatTypes
namespace Go.Proofs.YtlgdghpnfclgpaaGreat
set_option linter.unusedSimpArgs false
open Go.RowKit
set_option linter.unusedVariables false
theorem markEntryS_nil (k : Int) (w : World) : Calls Tryz.prog 116 #[.slice none 0 0, .int .i64 k] w fun e w' => e = .returned (.int .i64 k) ∧ Ext w w' := by
 go_enter Tryz.func116, Tryz.ntmps116
 go_wp2_with fail
 refine wp_loop_rounds 1 ?_
 rw [rounds_succ]
 go_wp2_with fail
 go_ret
 exact ⟨rfl, Below.refl _ _⟩
set_option maxHeartbeats 4000000
set_option maxRecDepth 100000
def ReceiptD.mk_ (k : Nat) : ReceiptD := ⟨markB k, markB (k + 1), ((k + 2 : Nat) : Int)⟩
def ReceiptD.mkL (k n : Nat) : List ReceiptD := (List.range n).map (fun i => ReceiptD.mk_ (k + i * 3))
theorem ReceiptD.mkL_len (k n : Nat) : (ReceiptD.mkL k n).length = n := by simp [ReceiptD.mkL]
theorem ReceiptD.mkL_at (k n i : Nat) (h : i < (ReceiptD.mkL k n).length) : (ReceiptD.mkL k n)[i] = ReceiptD.mk_ (k + i * 3) := by simp [ReceiptD.mkL]
theorem markReceiptS_any (g n c k : Nat) (cs : Array Value) (w : World) (hB : Blk w g 77 cs) (hn : n * 3 ≤ cs.size) (hl : n ≤ 1048576) (hk : k ≤ 1099511627) :
 Calls Tryz.prog 58 #[.slice (some ⟨g, 0, none⟩) n c, .int .i64 (k : Int)] w fun e w' => e = .returned (.int .i64 ((k + n * 3 : Nat) : Int)) ∧ Blk w' g 77 (rowAt ReceiptD.cells 3 (ReceiptD.mkL k n) cs n) ∧ ExtBut g w w' := by
 have Hn := hU hn
 have Hs := hU (fun j (hj : j ≤ n) => rowAt_size (k := j) ReceiptD.cells_length (l := ReceiptD.mkL k n) (cs := cs) (by rw [ReceiptD.mkL_len]; exact hn) (by rw [ReceiptD.mkL_len]; exact hj))
 have Hst := hU (fun j (hj : j < n) => rowAt_step (k := j) ReceiptD.cells_length (l := ReceiptD.mkL k n) (cs := cs) (by rw [ReceiptD.mkL_len]; exact hn) (by rw [ReceiptD.mkL_len]; exact hj))
 clear hn
 have B0 := hU (show Blk w g 77 (rowAt ReceiptD.cells 3 (ReceiptD.mkL k n) cs 0) by rw [rowAt_zero]; exact hB)
 clear hB
 go_enter Tryz.func58, Tryz.ntmps58
 go_wp2_with fail
 go_loopw [1, 5] (fun q i wr => ∃ (j : Nat), j ≤ n ∧ i = .int .i64 j ∧ q = .int .i64 ((k + j * 3 : Nat) : Int) ∧ Blk wr g 77 (rowAt ReceiptD.cells 3 (ReceiptD.mkL k n) cs j) ∧ ExtBut g w wr) (fun _ i _ => n - (intOf i).toNat)
 case atStart => exact ⟨0, Nat.zero_le _, rfl, by simp, B0.out, ExtBut.refl g w⟩
 case round =>
  clear B0
  obtain ⟨j, hj, rfl, rfl, hb, hx⟩ := hrel
  by_cases hlt : j < n
  case neg =>
   obtain rfl : j = n := by omega
   go_wp2_with fail
   go_ret
   exact ⟨rfl, hb, hx⟩
  have hz := Hs.out j hj
  have hn0 : j * 3 + 3 ≤ cs.size := by have := Hn.out; have := Nat.mul_le_mul_right 3 (show j + 1 ≤ n from hlt); omega
  have hkj : k + j * 3 ≤ 1099511627700 := by have := Nat.mul_le_mul_right 3 hj; omega
  generalize hM : rowAt ReceiptD.cells 3 (ReceiptD.mkL k n) cs j = M at *
  have HM := hU hM
  clear hM
  have q0 : (0 : Int) ≤ ((k + j * 3 : Nat) : Int) := by omega
  have q1 : ((k + j * 3 : Nat) : Int) ≤ 1099511627700 := by omega
  generalize hQ : k + j * 3 = Q at *
  have HQ := hU hQ
  clear hQ
  have hf := hb.frozen
  go_wp2_with fail
  refine (markText_int _ (Q + 0) (by omega) _ (by omega)).mono ?_
  rintro e w0 ⟨rfl, hx0⟩
  have hb0 := hb.ext hx0
  have hy0 := hx.next (ExtBut.of_ext hx0)
  clear hx0 hf 
  clear hb hx
  have hx := hy0; clear hy0
  obtain ⟨v0, z0⟩ := Blk.has hb0 (i := j * 3) (by (try simp only [Array.size_setIfInBounds]); rw [hz]; omega)
  have hf := hb0.frozen
  go_wp2_with fail
  refine (markText_int _ (Q + 1) (by omega) _ (by omega)).mono ?_
  rintro e w1 ⟨rfl, hx1⟩
  have hb1 := (hb0.set_ _ _).ext hx1
  have hy1 := (hx.set_ _ _).next (ExtBut.of_ext hx1)
  clear hx1 hf z0
  clear hb0 hx
  have hx := hy1; clear hy1
  obtain ⟨v1, z1⟩ := Blk.has hb1 (i := j * 3 + 1) (by (try simp only [Array.size_setIfInBounds]); rw [hz]; omega)
  have hf := hb1.frozen
  obtain ⟨v2, z2⟩ := Blk.has hb1 (i := j * 3 + 2) (by (try simp only [Array.size_setIfInBounds]); rw [hz]; omega)
  have hfin := ((hb1.set_ (j * 3 + 1) (.string (markB (Q + 1)))).set_ (j * 3 + 2) (.int .i64 ((Q : Int) + 2)))
  have HX := hU ((hx.set_ (j * 3 + 1) (.string (markB (Q + 1)))).set_ (j * 3 + 2) (.int .i64 ((Q : Int) + 2)))
  have hset := Hst.out j hlt
  rw [HM.out, ReceiptD.mkL_at, HQ.out] at hset
  have HB : Hid (Blk _ g 77 (rowAt ReceiptD.cells 3 (ReceiptD.mkL k n) cs (j + 1))) := hU (by rw [← hset]; exact hfin)
  clear hset hfin hb1 hx hz
  go_wp2_with fail
  go_roundw
  case rel => exact ⟨j + 1, by omega, by go_num, congrArg (Value.int .i64) (by have := HQ.out; omega), HB.out, HX.out⟩
  case measure => simp [intOf]; omega
theorem heldReceiptS_any (A : Option Addr) (n c k : Nat) (w : World) (hr : ReadsL w w.heap.size ReceiptD.cells 3 A (ReceiptD.mkL k n)) (hl : n ≤ 1048576) (hk : k ≤ 1099511627) :
 Calls Tryz.prog 85 #[.slice A n c, .int .i64 (k : Int)] w fun e w' => e = .returned (.int .i64 ((k + n * 3 : Nat) : Int)) ∧ Ext w w' := by
 have Hr := hU hr; clear hr
 go_enter Tryz.func85, Tryz.ntmps85
 go_wp2_with fail
 go_loopw [1, 5] (fun q i wr => ∃ (j : Nat), j ≤ n ∧ i = .int .i64 j ∧ q = .int .i64 ((k + j * 3 : Nat) : Int) ∧ Ext w wr) (fun _ i _ => n - (intOf i).toNat)
 case atStart => exact ⟨0, Nat.zero_le _, rfl, by simp, Below.refl _ _⟩
 case round =>
  obtain ⟨j, hj, rfl, rfl, he⟩ := hrel
  by_cases hlt : j < n
  case neg =>
   obtain rfl : j = n := by omega
   go_wp2_with fail
   go_ret
   exact ⟨rfl, he⟩
  have hln := ReceiptD.mkL_len k n
  obtain ⟨b, off, rfl, hb, hc⟩ := Reads.at_ (Hr.out.ext he) (k := j) (by rw [hln]; exact hlt)
  have hdl : (ReceiptD.mkL k n)[j]? = some (ReceiptD.mk_ (k + j * 3)) := by rw [List.getElem?_eq_getElem (by rw [hln]; exact hlt), ReceiptD.mkL_at]
  have hkj : k + j * 3 ≤ 1099511627700 := by have := Nat.mul_le_mul_right 3 hj; omega
  have q0 : (0 : Int) ≤ ((k + j * 3 : Nat) : Int) := by omega
  have q1 : ((k + j * 3 : Nat) : Int) ≤ 1099511627700 := by omega
  generalize hQ : k + j * 3 = Q at *
  have HQ := hU hQ
  clear hQ hln
  have C0 : ∀ w2, Ext wr w2 → w2.cell? ⟨b, off + j * 3, none⟩ = some (.string (markB (Q + 0))) := fun w2 h2 => (h2.cell (p := ⟨b, off + j * 3, none⟩) hb).trans (hc 0 _ (flat_at _ 3 ReceiptD.cells_length _ j 0 _ hdl (by omega)))
  have C1 : ∀ w2, Ext wr w2 → w2.cell? ⟨b, off + j * 3 + 1, none⟩ = some (.string (markB (Q + 1))) := fun w2 h2 => (h2.cell (p := ⟨b, off + j * 3 + 1, none⟩) hb).trans (hc 1 _ (flat_at _ 3 ReceiptD.cells_length _ j 1 _ hdl (by omega)))
  have C2 : ∀ w2, Ext wr w2 → w2.cell? ⟨b, off + j * 3 + 2, none⟩ = some (.int .i64 ((Q : Int) + 2)) := fun w2 h2 => (h2.cell (p := ⟨b, off + j * 3 + 2, none⟩) hb).trans (hc 2 _ (flat_at _ 3 ReceiptD.cells_length _ j 2 _ hdl (by omega)))
  obtain ⟨s0, hs0⟩ : ∃ s, s = markB (Q + 0) := ⟨_, rfl⟩
  rw [← hs0] at C0
  have T0 := hU hs0; clear hs0
  obtain ⟨s1, hs1⟩ : ∃ s, s = markB (Q + 1) := ⟨_, rfl⟩
  rw [← hs1] at C1
  have T1 := hU hs1; clear hs1
  have D0 := hU C0; clear C0
  have D1 := hU C1; clear C1
  have D2 := hU C2; clear C2
  clear hc hdl
  have E0 := Below.refl wr.heap.size wr
  have H0 := hU (he.next (w2 := wr) E0)
  have d0 := D0.out _ E0
  have d1 := D1.out _ E0
  have d2 := D2.out _ E0
  go_wp2_with fail
  go_region_held3 (fun w' => w'.cell? ⟨b, off + j * 3, none⟩ = some (.string s0) ∧ Ext wr w')
   (first | (exact ⟨D0.out _ (Below.drew E0), Below.drew E0⟩) | (go_split_ands; have y1 := Ext.next (by assumption) h1; exact ⟨D0.out _ y1, y1⟩))
   (first | (go_at_call 61; refine (markText_int _ (Q + 0) (by omega) _ (by omega)).mono ?_; rintro e w' ⟨he1, h1⟩; rw [← T0.out] at he1; subst he1))
  all_goals
   go_split_ands
   have e0 : Ext wr w' := by assumption
   clear d0 d1 d2
   have d0 := D0.out _ e0
   have d1 := D1.out _ e0
   have d2 := D2.out _ e0
   go_wp2_with fail
   go_region_held3 (fun w' => w'.cell? ⟨b, off + j * 3 + 1, none⟩ = some (.string s1) ∧ Ext wr w')
    (first | (exact ⟨D1.out _ (Below.drew e0), Below.drew e0⟩) | (go_split_ands; have y1 := Ext.next (by assumption) h1; exact ⟨D1.out _ y1, y1⟩))
    (first | (go_at_call 61; refine (markText_int _ (Q + 1) (by omega) _ (by omega)).mono ?_; rintro e w' ⟨he1, h1⟩; rw [← T1.out] at he1; subst he1))
   all_goals
    go_split_ands
    have e1 : Ext wr w' := by assumption
    clear d0 d1 d2
    have d0 := D0.out _ e1
    have d1 := D1.out _ e1
    have d2 := D2.out _ e1
    have H1 := hU (H0.out.next e1)
    go_wp2_with fail
    go_roundw
    case rel => exact ⟨j + 1, by omega, by go_num, congrArg (Value.int .i64) (by have := HQ.out; omega), H1.out⟩
    case measure => simp [intOf]; omega
theorem markReceiptS_nil (k : Int) (w : World) : Calls Tryz.prog 58 #[.slice none 0 0, .int .i64 k] w fun e w' => e = .returned (.int .i64 k) ∧ Ext w w' := by
 go_enter Tryz.func58, Tryz.ntmps58
 go_wp2_with fail
 refine wp_loop_rounds 1 ?_
 rw [rounds_succ]
 go_wp2_with fail
 go_ret
 exact ⟨rfl, Below.refl _ _⟩
def HeadD.mk_ (k : Nat) : HeadD := ⟨(k : Int), ((k + 1 : Nat) : Int), markB (k + 2), ((k + 3 : Nat) : Int), markB (k + 4)⟩
def HeadD.mkL (k n : Nat) : List HeadD := (List.range n).map (fun i => HeadD.mk_ (k + i * 5))
theorem HeadD.mkL_len (k n : Nat) : (HeadD.mkL k n).length = n := by simp [HeadD.mkL]
theorem HeadD.mkL_at (k n i : Nat) (h : i < (HeadD.mkL k n).length) : (HeadD.mkL k n)[i] = HeadD.mk_ (k + i * 5) := by simp [HeadD.mkL]
theorem markHeadS_any (g n c k : Nat) (cs : Array Value) (w : World) (hB : Blk w g 55 cs) (hn : n * 5 ≤ cs.size) (hl : n ≤ 1048576) (hk : k ≤ 1099511627) :
 Calls Tryz.prog 59 #[.slice (some ⟨g, 0, none⟩) n c, .int .i64 (k : Int)] w fun e w' => e = .returned (.int .i64 ((k + n * 5 : Nat) : Int)) ∧ Blk w' g 55 (rowAt HeadD.cells 5 (HeadD.mkL k n) cs n) ∧ ExtBut g w w' := by
 have Hn := hU hn
 have Hs := hU (fun j (hj : j ≤ n) => rowAt_size (k := j) HeadD.cells_length (l := HeadD.mkL k n) (cs := cs) (by rw [HeadD.mkL_len]; exact hn) (by rw [HeadD.mkL_len]; exact hj))
 have Hst := hU (fun j (hj : j < n) => rowAt_step (k := j) HeadD.cells_length (l := HeadD.mkL k n) (cs := cs) (by rw [HeadD.mkL_len]; exact hn) (by rw [HeadD.mkL_len]; exact hj))
 clear hn
 have B0 := hU (show Blk w g 55 (rowAt HeadD.cells 5 (HeadD.mkL k n) cs 0) by rw [rowAt_zero]; exact hB)
 clear hB
 go_enter Tryz.func59, Tryz.ntmps59
 go_wp2_with fail
 go_loopw [1, 5] (fun q i wr => ∃ (j : Nat), j ≤ n ∧ i = .int .i64 j ∧ q = .int .i64 ((k + j * 5 : Nat) : Int) ∧ Blk wr g 55 (rowAt HeadD.cells 5 (HeadD.mkL k n) cs j) ∧ ExtBut g w wr) (fun _ i _ => n - (intOf i).toNat)
 case atStart => exact ⟨0, Nat.zero_le _, rfl, by simp, B0.out, ExtBut.refl g w⟩
 case round =>
  clear B0
  obtain ⟨j, hj, rfl, rfl, hb, hx⟩ := hrel
  by_cases hlt : j < n
  case neg =>
   obtain rfl : j = n := by omega
   go_wp2_with fail
   go_ret
   exact ⟨rfl, hb, hx⟩
  have hz := Hs.out j hj
  have hn0 : j * 5 + 5 ≤ cs.size := by have := Hn.out; have := Nat.mul_le_mul_right 5 (show j + 1 ≤ n from hlt); omega
  have hkj : k + j * 5 ≤ 1099511627700 := by have := Nat.mul_le_mul_right 5 hj; omega
  generalize hM : rowAt HeadD.cells 5 (HeadD.mkL k n) cs j = M at *
  have HM := hU hM
  clear hM
  have q0 : (0 : Int) ≤ ((k + j * 5 : Nat) : Int) := by omega
  have q1 : ((k + j * 5 : Nat) : Int) ≤ 1099511627700 := by omega
  generalize hQ : k + j * 5 = Q at *
  have HQ := hU hQ
  clear hQ
  obtain ⟨v0, z0⟩ := Blk.has hb (i := j * 5) (by rw [hz]; omega)
  obtain ⟨v1, z1⟩ := Blk.has hb (i := j * 5 + 1) (by rw [hz]; omega)
  have hf := hb.frozen
  go_wp2_with fail
  refine (markText_int _ (Q + 2) (by omega) _ (by omega)).mono ?_
  rintro e w2 ⟨rfl, hx2⟩
  have hb2 := ((hb.set_ _ _).set_ _ _).ext hx2
  have hy2 := ((hx.set_ _ _).set_ _ _).next (ExtBut.of_ext hx2)
  clear hx2 hf z0 z1
  clear hb hx
  have hx := hy2; clear hy2
  obtain ⟨v2, z2⟩ := Blk.has hb2 (i := j * 5 + 2) (by (try simp only [Array.size_setIfInBounds]); rw [hz]; omega)
  have hf := hb2.frozen
  obtain ⟨v3, z3⟩ := Blk.has hb2 (i := j * 5 + 3) (by (try simp only [Array.size_setIfInBounds]); rw [hz]; omega)
  go_wp2_with fail
  refine (markText_int _ (Q + 4) (by omega) _ (by omega)).mono ?_
  rintro e w4 ⟨rfl, hx4⟩
  have hb4 := ((hb2.set_ _ _).set_ _ _).ext hx4
  have hy4 := ((hx.set_ _ _).set_ _ _).next (ExtBut.of_ext hx4)
  clear hx4 hf z2 z3
  clear hb2 hx
  have hx := hy4; clear hy4
  obtain ⟨v4, z4⟩ := Blk.has hb4 (i := j * 5 + 4) (by (try simp only [Array.size_setIfInBounds]); rw [hz]; omega)
  have hf := hb4.frozen
  have hfin := (hb4.set_ (j * 5 + 4) (.string (markB (Q + 4))))
  have HX := hU (hx.set_ (j * 5 + 4) (.string (markB (Q + 4))))
  have hset := Hst.out j hlt
  rw [HM.out, HeadD.mkL_at, HQ.out] at hset
  have HB : Hid (Blk _ g 55 (rowAt HeadD.cells 5 (HeadD.mkL k n) cs (j + 1))) := hU (by rw [← hset]; exact hfin)
  clear hset hfin hb4 hx hz
  go_wp2_with fail
  go_roundw
  case rel => exact ⟨j + 1, by omega, by go_num, congrArg (Value.int .i64) (by have := HQ.out; omega), HB.out, HX.out⟩
  case measure => simp [intOf]; omega
theorem heldHeadS_any (A : Option Addr) (n c k : Nat) (w : World) (hr : ReadsL w w.heap.size HeadD.cells 5 A (HeadD.mkL k n)) (hl : n ≤ 1048576) (hk : k ≤ 1099511627) :
 Calls Tryz.prog 86 #[.slice A n c, .int .i64 (k : Int)] w fun e w' => e = .returned (.int .i64 ((k + n * 5 : Nat) : Int)) ∧ Ext w w' := by
 have Hr := hU hr; clear hr
 go_enter Tryz.func86, Tryz.ntmps86
 go_wp2_with fail
 go_loopw [1, 5] (fun q i wr => ∃ (j : Nat), j ≤ n ∧ i = .int .i64 j ∧ q = .int .i64 ((k + j * 5 : Nat) : Int) ∧ Ext w wr) (fun _ i _ => n - (intOf i).toNat)
 case atStart => exact ⟨0, Nat.zero_le _, rfl, by simp, Below.refl _ _⟩
 case round =>
  obtain ⟨j, hj, rfl, rfl, he⟩ := hrel
  by_cases hlt : j < n
  case neg =>
   obtain rfl : j = n := by omega
   go_wp2_with fail
   go_ret
   exact ⟨rfl, he⟩
  have hln := HeadD.mkL_len k n
  obtain ⟨b, off, rfl, hb, hc⟩ := Reads.at_ (Hr.out.ext he) (k := j) (by rw [hln]; exact hlt)
  have hdl : (HeadD.mkL k n)[j]? = some (HeadD.mk_ (k + j * 5)) := by rw [List.getElem?_eq_getElem (by rw [hln]; exact hlt), HeadD.mkL_at]
  have hkj : k + j * 5 ≤ 1099511627700 := by have := Nat.mul_le_mul_right 5 hj; omega
  have q0 : (0 : Int) ≤ ((k + j * 5 : Nat) : Int) := by omega
  have q1 : ((k + j * 5 : Nat) : Int) ≤ 1099511627700 := by omega
  generalize hQ : k + j * 5 = Q at *
  have HQ := hU hQ
  clear hQ hln
  have C0 : ∀ w2, Ext wr w2 → w2.cell? ⟨b, off + j * 5, none⟩ = some (.int .i64 (Q : Int)) := fun w2 h2 => (h2.cell (p := ⟨b, off + j * 5, none⟩) hb).trans (hc 0 _ (flat_at _ 5 HeadD.cells_length _ j 0 _ hdl (by omega)))
  have C1 : ∀ w2, Ext wr w2 → w2.cell? ⟨b, off + j * 5 + 1, none⟩ = some (.int .i64 ((Q : Int) + 1)) := fun w2 h2 => (h2.cell (p := ⟨b, off + j * 5 + 1, none⟩) hb).trans (hc 1 _ (flat_at _ 5 HeadD.cells_length _ j 1 _ hdl (by omega)))
  have C2 : ∀ w2, Ext wr w2 → w2.cell? ⟨b, off + j * 5 + 2, none⟩ = some (.string (markB (Q + 2))) := fun w2 h2 => (h2.cell (p := ⟨b, off + j * 5 + 2, none⟩) hb).trans (hc 2 _ (flat_at _ 5 HeadD.cells_length _ j 2 _ hdl (by omega)))
  have C3 : ∀ w2, Ext wr w2 → w2.cell? ⟨b, off + j * 5 + 3, none⟩ = some (.int .i64 ((Q : Int) + 3)) := fun w2 h2 => (h2.cell (p := ⟨b, off + j * 5 + 3, none⟩) hb).trans (hc 3 _ (flat_at _ 5 HeadD.cells_length _ j 3 _ hdl (by omega)))
  have C4 : ∀ w2, Ext wr w2 → w2.cell? ⟨b, off + j * 5 + 4, none⟩ = some (.string (markB (Q + 4))) := fun w2 h2 => (h2.cell (p := ⟨b, off + j * 5 + 4, none⟩) hb).trans (hc 4 _ (flat_at _ 5 HeadD.cells_length _ j 4 _ hdl (by omega)))
  obtain ⟨s2, hs2⟩ : ∃ s, s = markB (Q + 2) := ⟨_, rfl⟩
  rw [← hs2] at C2
  have T2 := hU hs2; clear hs2
  obtain ⟨s4, hs4⟩ : ∃ s, s = markB (Q + 4) := ⟨_, rfl⟩
  rw [← hs4] at C4
  have T4 := hU hs4; clear hs4
  have D0 := hU C0; clear C0
  have D1 := hU C1; clear C1
  have D2 := hU C2; clear C2
  have D3 := hU C3; clear C3
  have D4 := hU C4; clear C4
  clear hc hdl
  have E0 := Below.refl wr.heap.size wr
  have H0 := hU (he.next (w2 := wr) E0)
  have d0 := D0.out _ E0
  have d1 := D1.out _ E0
  have d2 := D2.out _ E0
  have d3 := D3.out _ E0
  have d4 := D4.out _ E0
  go_wp2_with fail
  go_region_held3 (fun w' => w'.cell? ⟨b, off + j * 5 + 2, none⟩ = some (.string s2) ∧ Ext wr w')
   (first | (exact ⟨D2.out _ (Below.drew E0), Below.drew E0⟩) | (go_split_ands; have y1 := Ext.next (by assumption) h1; exact ⟨D2.out _ y1, y1⟩))
   (first | (go_at_call 61; refine (markText_int _ (Q + 2) (by omega) _ (by omega)).mono ?_; rintro e w' ⟨he1, h1⟩; rw [← T2.out] at he1; subst he1))
  all_goals
   go_split_ands
   have e2 : Ext wr w' := by assumption
   clear d0 d1 d2 d3 d4
   have d0 := D0.out _ e2
   have d1 := D1.out _ e2
   have d2 := D2.out _ e2
   have d3 := D3.out _ e2
   have d4 := D4.out _ e2
   go_wp2_with fail
   go_region_held3 (fun w' => w'.cell? ⟨b, off + j * 5 + 4, none⟩ = some (.string s4) ∧ Ext wr w')
    (first | (exact ⟨D4.out _ (Below.drew e2), Below.drew e2⟩) | (go_split_ands; have y1 := Ext.next (by assumption) h1; exact ⟨D4.out _ y1, y1⟩))
    (first | (go_at_call 61; refine (markText_int _ (Q + 4) (by omega) _ (by omega)).mono ?_; rintro e w' ⟨he1, h1⟩; rw [← T4.out] at he1; subst he1))
   all_goals
    go_split_ands
    have e4 : Ext wr w' := by assumption
    clear d0 d1 d2 d3 d4
    have d0 := D0.out _ e4
    have d1 := D1.out _ e4
    have d2 := D2.out _ e4
    have d3 := D3.out _ e4
    have d4 := D4.out _ e4
    have H1 := hU (H0.out.next e4)
    go_wp2_with fail
    go_roundw
    case rel => exact ⟨j + 1, by omega, by go_num, congrArg (Value.int .i64) (by have := HQ.out; omega), H1.out⟩
    case measure => simp [intOf]; omega
theorem markHeadS_nil (k : Int) (w : World) : Calls Tryz.prog 59 #[.slice none 0 0, .int .i64 k] w fun e w' => e = .returned (.int .i64 k) ∧ Ext w w' := by
 go_enter Tryz.func59, Tryz.ntmps59
 go_wp2_with fail
 refine wp_loop_rounds 1 ?_
 rw [rounds_succ]
 go_wp2_with fail
 go_ret
 exact ⟨rfl, Below.refl _ _⟩
def WriteD.mk_ (k : Nat) : WriteD := ⟨(k : Int), ((k + 1 : Nat) : Int), markB (k + 2)⟩
def WriteD.mkL (k n : Nat) : List WriteD := (List.range n).map (fun i => WriteD.mk_ (k + i * 3))
theorem WriteD.mkL_len (k n : Nat) : (WriteD.mkL k n).length = n := by simp [WriteD.mkL]
theorem WriteD.mkL_at (k n i : Nat) (h : i < (WriteD.mkL k n).length) : (WriteD.mkL k n)[i] = WriteD.mk_ (k + i * 3) := by simp [WriteD.mkL]
theorem markWriteS_any (g n c k : Nat) (cs : Array Value) (w : World) (hB : Blk w g 112 cs) (hn : n * 3 ≤ cs.size) (hl : n ≤ 1048576) (hk : k ≤ 1099511627) :
 Calls Tryz.prog 28 #[.slice (some ⟨g, 0, none⟩) n c, .int .i64 (k : Int)] w fun e w' => e = .returned (.int .i64 ((k + n * 3 : Nat) : Int)) ∧ Blk w' g 112 (rowAt WriteD.cells 3 (WriteD.mkL k n) cs n) ∧ ExtBut g w w' := by
 have Hn := hU hn
 have Hs := hU (fun j (hj : j ≤ n) => rowAt_size (k := j) WriteD.cells_length (l := WriteD.mkL k n) (cs := cs) (by rw [WriteD.mkL_len]; exact hn) (by rw [WriteD.mkL_len]; exact hj))
 have Hst := hU (fun j (hj : j < n) => rowAt_step (k := j) WriteD.cells_length (l := WriteD.mkL k n) (cs := cs) (by rw [WriteD.mkL_len]; exact hn) (by rw [WriteD.mkL_len]; exact hj))
 clear hn
 have B0 := hU (show Blk w g 112 (rowAt WriteD.cells 3 (WriteD.mkL k n) cs 0) by rw [rowAt_zero]; exact hB)
 clear hB
 go_enter Tryz.func28, Tryz.ntmps28
 go_wp2_with fail
 go_loopw [1, 5] (fun q i wr => ∃ (j : Nat), j ≤ n ∧ i = .int .i64 j ∧ q = .int .i64 ((k + j * 3 : Nat) : Int) ∧ Blk wr g 112 (rowAt WriteD.cells 3 (WriteD.mkL k n) cs j) ∧ ExtBut g w wr) (fun _ i _ => n - (intOf i).toNat)
 case atStart => exact ⟨0, Nat.zero_le _, rfl, by simp, B0.out, ExtBut.refl g w⟩
 case round =>
  clear B0
  obtain ⟨j, hj, rfl, rfl, hb, hx⟩ := hrel
  by_cases hlt : j < n
  case neg =>
   obtain rfl : j = n := by omega
   go_wp2_with fail
   go_ret
   exact ⟨rfl, hb, hx⟩
  have hz := Hs.out j hj
  have hn0 : j * 3 + 3 ≤ cs.size := by have := Hn.out; have := Nat.mul_le_mul_right 3 (show j + 1 ≤ n from hlt); omega
  have hkj : k + j * 3 ≤ 1099511627700 := by have := Nat.mul_le_mul_right 3 hj; omega
  generalize hM : rowAt WriteD.cells 3 (WriteD.mkL k n) cs j = M at *
  have HM := hU hM
  clear hM
  have q0 : (0 : Int) ≤ ((k + j * 3 : Nat) : Int) := by omega
  have q1 : ((k + j * 3 : Nat) : Int) ≤ 1099511627700 := by omega
  generalize hQ : k + j * 3 = Q at *
  have HQ := hU hQ
  clear hQ
  obtain ⟨v0, z0⟩ := Blk.has hb (i := j * 3) (by rw [hz]; omega)
  obtain ⟨v1, z1⟩ := Blk.has hb (i := j * 3 + 1) (by rw [hz]; omega)
  have hf := hb.frozen
  go_wp2_with fail
  refine (markText_int _ (Q + 2) (by omega) _ (by omega)).mono ?_
  rintro e w2 ⟨rfl, hx2⟩
  have hb2 := ((hb.set_ _ _).set_ _ _).ext hx2
  have hy2 := ((hx.set_ _ _).set_ _ _).next (ExtBut.of_ext hx2)
  clear hx2 hf z0 z1
  clear hb hx
  have hx := hy2; clear hy2
  obtain ⟨v2, z2⟩ := Blk.has hb2 (i := j * 3 + 2) (by (try simp only [Array.size_setIfInBounds]); rw [hz]; omega)
  have hf := hb2.frozen
  have hfin := (hb2.set_ (j * 3 + 2) (.string (markB (Q + 2))))
  have HX := hU (hx.set_ (j * 3 + 2) (.string (markB (Q + 2))))
  have hset := Hst.out j hlt
  rw [HM.out, WriteD.mkL_at, HQ.out] at hset
  have HB : Hid (Blk _ g 112 (rowAt WriteD.cells 3 (WriteD.mkL k n) cs (j + 1))) := hU (by rw [← hset]; exact hfin)
  clear hset hfin hb2 hx hz
  go_wp2_with fail
  go_roundw
  case rel => exact ⟨j + 1, by omega, by go_num, congrArg (Value.int .i64) (by have := HQ.out; omega), HB.out, HX.out⟩
  case measure => simp [intOf]; omega
theorem heldWriteS_any (A : Option Addr) (n c k : Nat) (w : World) (hr : ReadsL w w.heap.size WriteD.cells 3 A (WriteD.mkL k n)) (hl : n ≤ 1048576) (hk : k ≤ 1099511627) :
 Calls Tryz.prog 30 #[.slice A n c, .int .i64 (k : Int)] w fun e w' => e = .returned (.int .i64 ((k + n * 3 : Nat) : Int)) ∧ Ext w w' := by
 have Hr := hU hr; clear hr
 go_enter Tryz.func30, Tryz.ntmps30
 go_wp2_with fail
 go_loopw [1, 5] (fun q i wr => ∃ (j : Nat), j ≤ n ∧ i = .int .i64 j ∧ q = .int .i64 ((k + j * 3 : Nat) : Int) ∧ Ext w wr) (fun _ i _ => n - (intOf i).toNat)
 case atStart => exact ⟨0, Nat.zero_le _, rfl, by simp, Below.refl _ _⟩
 case round =>
  obtain ⟨j, hj, rfl, rfl, he⟩ := hrel
  by_cases hlt : j < n
  case neg =>
   obtain rfl : j = n := by omega
   go_wp2_with fail
   go_ret
   exact ⟨rfl, he⟩
  have hln := WriteD.mkL_len k n
  obtain ⟨b, off, rfl, hb, hc⟩ := Reads.at_ (Hr.out.ext he) (k := j) (by rw [hln]; exact hlt)
  have hdl : (WriteD.mkL k n)[j]? = some (WriteD.mk_ (k + j * 3)) := by rw [List.getElem?_eq_getElem (by rw [hln]; exact hlt), WriteD.mkL_at]
  have hkj : k + j * 3 ≤ 1099511627700 := by have := Nat.mul_le_mul_right 3 hj; omega
  have q0 : (0 : Int) ≤ ((k + j * 3 : Nat) : Int) := by omega
  have q1 : ((k + j * 3 : Nat) : Int) ≤ 1099511627700 := by omega
  generalize hQ : k + j * 3 = Q at *
  have HQ := hU hQ
  clear hQ hln
  have C0 : ∀ w2, Ext wr w2 → w2.cell? ⟨b, off + j * 3, none⟩ = some (.int .i64 (Q : Int)) := fun w2 h2 => (h2.cell (p := ⟨b, off + j * 3, none⟩) hb).trans (hc 0 _ (flat_at _ 3 WriteD.cells_length _ j 0 _ hdl (by omega)))
  have C1 : ∀ w2, Ext wr w2 → w2.cell? ⟨b, off + j * 3 + 1, none⟩ = some (.int .i64 ((Q : Int) + 1)) := fun w2 h2 => (h2.cell (p := ⟨b, off + j * 3 + 1, none⟩) hb).trans (hc 1 _ (flat_at _ 3 WriteD.cells_length _ j 1 _ hdl (by omega)))
  have C2 : ∀ w2, Ext wr w2 → w2.cell? ⟨b, off + j * 3 + 2, none⟩ = some (.string (markB (Q + 2))) := fun w2 h2 => (h2.cell (p := ⟨b, off + j * 3 + 2, none⟩) hb).trans (hc 2 _ (flat_at _ 3 WriteD.cells_length _ j 2 _ hdl (by omega)))
  obtain ⟨s2, hs2⟩ : ∃ s, s = markB (Q + 2) := ⟨_, rfl⟩
  rw [← hs2] at C2
  have T2 := hU hs2; clear hs2
  have D0 := hU C0; clear C0
  have D1 := hU C1; clear C1
  have D2 := hU C2; clear C2
  clear hc hdl
  have E0 := Below.refl wr.heap.size wr
  have H0 := hU (he.next (w2 := wr) E0)
  have d0 := D0.out _ E0
  have d1 := D1.out _ E0
  have d2 := D2.out _ E0
  go_wp2_with fail
  go_region_held3 (fun w' => w'.cell? ⟨b, off + j * 3 + 2, none⟩ = some (.string s2) ∧ Ext wr w')
   (first | (exact ⟨D2.out _ (Below.drew E0), Below.drew E0⟩) | (go_split_ands; have y1 := Ext.next (by assumption) h1; exact ⟨D2.out _ y1, y1⟩))
   (first | (go_at_call 61; refine (markText_int _ (Q + 2) (by omega) _ (by omega)).mono ?_; rintro e w' ⟨he1, h1⟩; rw [← T2.out] at he1; subst he1))
  all_goals
   go_split_ands
   have e2 : Ext wr w' := by assumption
   clear d0 d1 d2
   have d0 := D0.out _ e2
   have d1 := D1.out _ e2
   have d2 := D2.out _ e2
   have H1 := hU (H0.out.next e2)
   go_wp2_with fail
   go_roundw
   case rel => exact ⟨j + 1, by omega, by go_num, congrArg (Value.int .i64) (by have := HQ.out; omega), H1.out⟩
   case measure => simp [intOf]; omega
end Go.Proofs.YtlgdghpnfclgpaaGreat

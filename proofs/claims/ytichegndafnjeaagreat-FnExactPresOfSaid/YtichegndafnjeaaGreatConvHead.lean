/-
  Hashes of entries and of receipts: walks. No condition.
  The laws' own copying and comparing functions at Head: walks. Written by program (gen_conv.py). No condition.
-/
import Derived.Test.YtichegndafnjeaaGreatPath
import Derived.Test.YtichegndafnjeaaGreatLeafText
import Derived.Test.YtichegndafnjeaaGreatTypes
import Derived.StillTailTactics
namespace Go.Proofs.YtichegndafnjeaaGreat
open Go.RowKit
set_option linter.unusedVariables false

def leafHOk (n : Int) (e : EntryD) : Bool := entryOk e && digestOk n 0 (leafText e)
def leafH (n : Int) (e : EntryD) : ByteArray := if entryOk e then digest n 0 (leafText e) else ⟨#[]⟩
def recHOk (n : Int) (r : ReceiptD) : Bool := receiptOk r && digestOk n 2 (receiptText r)
def recH (n : Int) (r : ReceiptD) : ByteArray := if receiptOk r then digest n 2 (receiptText r) else ⟨#[]⟩
theorem octB_size1 (k : Int) : (octB k).size = 1 := rfl
theorem leafText_size (d : EntryD) : (leafText d).size ≤ 1000 := by
  unfold leafText
  by_cases h : entryOk d = true
  · have := entryOk_bounds h
    rw [if_pos h, leafT]
    have e : (lowB d.time.toNat 4).size = 4 := rfl
    have e1 : (⟨#[69]⟩ : ByteArray).size = 1 := rfl
    simp only [ByteArray.size_append, octB_size1, e, e1]
    omega
  · rw [if_neg h]; decide
theorem receiptText_size (d : ReceiptD) : (receiptText d).size ≤ 1000 := by
  unfold receiptText
  by_cases h : receiptOk d = true
  · have h' := h
    simp only [receiptOk, Bool.and_eq_true] at h'
    have s1 := nameOk_size h'.1.1
    have s2 := nameOk_size h'.1.2
    rw [if_pos h, receiptT]
    have e1 : (⟨#[82]⟩ : ByteArray).size = 1 := rfl
    simp only [ByteArray.size_append, octB_size1, e1]
    omega
  · rw [if_neg h]; decide
theorem small_max {b : ByteArray} (h : b.size ≤ 1000) : b.size ≤ maxLen := by unfold maxLen; omega
theorem leafH_yes {n : Int} {e : EntryD} (h : entryOk e = true) : leafH n e = digest n 0 (leafText e) ∧ leafHOk n e = digestOk n 0 (leafText e) := by simp [leafH, leafHOk, h]
theorem leafH_no {n : Int} {e : EntryD} (h : entryOk e = false) : leafH n e = ⟨#[]⟩ ∧ leafHOk n e = false := by simp [leafH, leafHOk, h]
theorem recH_yes {n : Int} {e : ReceiptD} (h : receiptOk e = true) : recH n e = digest n 2 (receiptText e) ∧ recHOk n e = digestOk n 2 (receiptText e) := by simp [recH, recHOk, h]
theorem recH_no {n : Int} {e : ReceiptD} (h : receiptOk e = false) : recH n e = ⟨#[]⟩ ∧ recHOk n e = false := by simp [recH, recHOk, h]
set_option maxHeartbeats 1000000 in
theorem implLeafHash_any (n : Int) (d : EntryD) (w : World) (hd : d.Ok) : Calls Tryz.prog 150 #[.int .i64 n, .agg #[.string d.topic, .int .i64 d.index, .int .i64 d.time, .string d.key, .string d.body]] w fun e w' => e = .returned (.tuple #[.string (leafH n d), .bool (leafHOk n d)]) ∧ Ext w w' := by
  have Hd := Lib.hid hd; clear hd
  cases b : entryOk d
  · obtain ⟨e1, e2⟩ := leafH_no (n := n) b
    rw [e1, e2]
    go_enter Tryz.func150, Tryz.ntmps150
    go_wp2_with fail
    refine (LeafText_any d _ Hd.out).mono ?_
    rintro e w1 ⟨rfl, h1⟩
    rw [b]
    go_wp2_with fail
    go_ret2
    exact ⟨rfl, by first | exact h1 | exact Ext.next (Ext.new (Below.refl _ _) _) h1⟩
  · obtain ⟨e1, e2⟩ := leafH_yes (n := n) b
    rw [e1, e2]
    have hs := small_max (leafText_size d)
    go_enter Tryz.func150, Tryz.ntmps150
    go_wp2_with fail
    refine (LeafText_any d _ Hd.out).mono ?_
    rintro e w1 ⟨rfl, h1⟩
    rw [b]
    go_wp2_with fail
    refine (Digest_any n 0 (leafText d) _ hs).mono ?_
    rintro e w2 ⟨rfl, h2⟩
    go_wp2_with fail
    go_ret2
    exact ⟨rfl, by first | exact h1.next h2 | exact Ext.next (Ext.new (Below.refl _ _) _) (h1.next h2)⟩
set_option maxHeartbeats 1000000 in
theorem implReceiptHash_any (n : Int) (d : ReceiptD) (w : World) (hd : d.Ok) : Calls Tryz.prog 152 #[.int .i64 n, .agg #[.string d.reader, .string d.topic, .int .i64 d.index]] w fun e w' => e = .returned (.tuple #[.string (recH n d), .bool (recHOk n d)]) ∧ Ext w w' := by
  have Hd := Lib.hid hd; clear hd
  cases b : receiptOk d
  · obtain ⟨e1, e2⟩ := recH_no (n := n) b
    rw [e1, e2]
    go_enter Tryz.func152, Tryz.ntmps152
    go_wp2_with fail
    refine (ReceiptText_any d _ Hd.out).mono ?_
    rintro e w1 ⟨rfl, h1⟩
    rw [b]
    go_wp2_with fail
    go_ret2
    exact ⟨rfl, by first | exact h1 | exact Ext.next (Ext.new (Below.refl _ _) _) h1⟩
  · obtain ⟨e1, e2⟩ := recH_yes (n := n) b
    rw [e1, e2]
    have hs := small_max (receiptText_size d)
    go_enter Tryz.func152, Tryz.ntmps152
    go_wp2_with fail
    refine (ReceiptText_any d _ Hd.out).mono ?_
    rintro e w1 ⟨rfl, h1⟩
    rw [b]
    go_wp2_with fail
    refine (Digest_any n 2 (receiptText d) _ hs).mono ?_
    rintro e w2 ⟨rfl, h2⟩
    go_wp2_with fail
    go_ret2
    exact ⟨rfl, by first | exact h1.next h2 | exact Ext.next (Ext.new (Below.refl _ _) _) (h1.next h2)⟩
set_option maxHeartbeats 1000000 in
theorem specLeafHash_any (n : Int) (d : EntryD) (w : World) (hd : d.Ok) : Calls Tryz.prog 39 #[.int .i64 n, .agg #[.string d.topic, .int .i64 d.index, .int .i64 d.time, .string d.key, .string d.body]] w fun e w' => e = .returned (.tuple #[.string (leafH n d), .bool (leafHOk n d)]) ∧ Ext w w' := by
  have Hd := Lib.hid hd; clear hd
  cases b : entryOk d
  · obtain ⟨e1, e2⟩ := leafH_no (n := n) b
    rw [e1, e2]
    go_enter Tryz.func39, Tryz.ntmps39
    go_wp2_with fail
    refine (specLeafText_any d _ Hd.out).mono ?_
    rintro e w1 ⟨rfl, h1⟩
    rw [b]
    go_wp2_with fail
    go_ret2
    exact ⟨rfl, by first | exact h1 | exact Ext.next (Ext.new (Below.refl _ _) _) h1⟩
  · obtain ⟨e1, e2⟩ := leafH_yes (n := n) b
    rw [e1, e2]
    have hs := small_max (leafText_size d)
    go_enter Tryz.func39, Tryz.ntmps39
    go_wp2_with fail
    refine (specLeafText_any d _ Hd.out).mono ?_
    rintro e w1 ⟨rfl, h1⟩
    rw [b]
    go_wp2_with fail
    refine (specDigest_any n 0 (leafText d) _ hs).mono ?_
    rintro e w2 ⟨rfl, h2⟩
    go_wp2_with fail
    go_ret2
    exact ⟨rfl, by first | exact h1.next h2 | exact Ext.next (Ext.new (Below.refl _ _) _) (h1.next h2)⟩
set_option maxHeartbeats 1000000 in
theorem specReceiptHash_any (n : Int) (d : ReceiptD) (w : World) (hd : d.Ok) : Calls Tryz.prog 42 #[.int .i64 n, .agg #[.string d.reader, .string d.topic, .int .i64 d.index]] w fun e w' => e = .returned (.tuple #[.string (recH n d), .bool (recHOk n d)]) ∧ Ext w w' := by
  have Hd := Lib.hid hd; clear hd
  cases b : receiptOk d
  · obtain ⟨e1, e2⟩ := recH_no (n := n) b
    rw [e1, e2]
    go_enter Tryz.func42, Tryz.ntmps42
    go_wp2_with fail
    refine (specReceiptText_any d _ Hd.out).mono ?_
    rintro e w1 ⟨rfl, h1⟩
    rw [b]
    go_wp2_with fail
    go_ret2
    exact ⟨rfl, by first | exact h1 | exact Ext.next (Ext.new (Below.refl _ _) _) h1⟩
  · obtain ⟨e1, e2⟩ := recH_yes (n := n) b
    rw [e1, e2]
    have hs := small_max (receiptText_size d)
    go_enter Tryz.func42, Tryz.ntmps42
    go_wp2_with fail
    refine (specReceiptText_any d _ Hd.out).mono ?_
    rintro e w1 ⟨rfl, h1⟩
    rw [b]
    go_wp2_with fail
    refine (specDigest_any n 2 (receiptText d) _ hs).mono ?_
    rintro e w2 ⟨rfl, h2⟩
    go_wp2_with fail
    go_ret2
    exact ⟨rfl, by first | exact h1.next h2 | exact Ext.next (Ext.new (Below.refl _ _) _) (h1.next h2)⟩
end Go.Proofs.YtichegndafnjeaaGreat
namespace Go.Proofs.YtichegndafnjeaaGreat
open Go.RowKit
set_option linter.unusedVariables false

def HeadD.lens (d : HeadD) : List Nat := [d.root.size, d.takenRoot.size]
theorem szHead_any (d : HeadD) (left : Int) (w : World) (hd : d.Ok) (h0 : 0 ≤ left) (h1 : left ≤ 1048576) :
    Calls Tryz.prog 32 #[.agg #[.int .i64 d.number, .int .i64 d.size, .string d.root, .int .i64 d.taken, .string d.takenRoot], .int .i64 left] w fun e w' => e = .returned (.int .i64 (szL d.lens left)) ∧ Ext w w' := by
  obtain ⟨k0, k1, k2, k3, k4⟩ := hd
  unfold maxLen at *
  clear k0 k1 k3
  go_enter Tryz.func32, Tryz.ntmps32
  go_wp2
  all_goals
    go_ret
    exact ⟨ret_int (by simp only [szL, HeadD.lens]; (repeat' split) <;> omega), by go_grown⟩
theorem toHead_any (d : HeadD) (w : World) :
    Calls Tryz.prog 43 #[.agg #[.int .i64 d.number, .int .i64 d.size, .string d.root, .int .i64 d.taken, .string d.takenRoot]] w fun e w' => e = .returned (.agg #[.int .i64 d.number, .int .i64 d.size, .string d.root, .int .i64 d.taken, .string d.takenRoot]) ∧ Ext w w' := by
  go_enter Tryz.func43, Tryz.ntmps43
  go_wp2
  go_returns
  exact ⟨rfl, by go_grown⟩
theorem eqHead_same (d : HeadD) (w : World) :
    Calls Tryz.prog 52 #[.agg #[.int .i64 d.number, .int .i64 d.size, .string d.root, .int .i64 d.taken, .string d.takenRoot], .agg #[.int .i64 d.number, .int .i64 d.size, .string d.root, .int .i64 d.taken, .string d.takenRoot]] w fun e w' => e = .returned (.bool true) ∧ Ext w w' := by
  go_enter Tryz.func52, Tryz.ntmps52
  go_wp2
  go_ret
  exact ⟨rfl, by go_grown⟩
set_option maxHeartbeats 1000000 in
set_option maxRecDepth 100000 in
theorem eqHeadS_same (A A' : Option Addr) (c c' : Nat) (l : List HeadD) (w : World) (hr : ReadsL w w.heap.size HeadD.cells 5 A l) (hr' : ReadsL w w.heap.size HeadD.cells 5 A' l) (hl : l.length ≤ 1048576) :
    Calls Tryz.prog 121 #[.slice A l.length c, .slice A' l.length c'] w fun e w' => e = .returned (.bool true) ∧ Ext w w' := by
  go_enter Tryz.func121, Tryz.ntmps121
  go_wp2
  go_loopw [5] (fun i wr => ∃ (k : Nat), k ≤ l.length ∧ i = .int .i64 k ∧ Ext w wr) (fun i _ => l.length - (intOf i).toNat)
  case atStart => exact ⟨0, Nat.zero_le _, rfl, Below.refl _ _⟩
  case round =>
    obtain ⟨k, hk, rfl, he⟩ := hrel
    by_cases hlt : k < l.length
    · obtain ⟨b, off, rfl, hb, hc⟩ := (hr.below he).at_ (k := k) hlt
      obtain ⟨b', off', rfl, hb', hc'⟩ := (hr'.below he).at_ (k := k) hlt
      obtain ⟨d, hd⟩ : ∃ d, d = l[k] := ⟨_, rfl⟩
      have hdl : l[k]? = some d := by rw [hd]; exact List.getElem?_eq_getElem hlt
      have c0 := hc 0 _ (flat_at _ 5 HeadD.cells_length l k 0 d hdl (by omega))
      have c1 := hc 1 _ (flat_at _ 5 HeadD.cells_length l k 1 d hdl (by omega))
      have c2 := hc 2 _ (flat_at _ 5 HeadD.cells_length l k 2 d hdl (by omega))
      have c3 := hc 3 _ (flat_at _ 5 HeadD.cells_length l k 3 d hdl (by omega))
      have c4 := hc 4 _ (flat_at _ 5 HeadD.cells_length l k 4 d hdl (by omega))
      have b0 := hc' 0 _ (flat_at _ 5 HeadD.cells_length l k 0 d hdl (by omega))
      have b1 := hc' 1 _ (flat_at _ 5 HeadD.cells_length l k 1 d hdl (by omega))
      have b2 := hc' 2 _ (flat_at _ 5 HeadD.cells_length l k 2 d hdl (by omega))
      have b3 := hc' 3 _ (flat_at _ 5 HeadD.cells_length l k 3 d hdl (by omega))
      have b4 := hc' 4 _ (flat_at _ 5 HeadD.cells_length l k 4 d hdl (by omega))
      rw [Nat.add_zero] at c0 b0
      clear hc hc' hd hdl
      go_wp2_with fail
      go_still_tail 8, (by kernel_rfl)
      change wpList _ _ _ _ _ wr.drew
      generalize hw : wr.drew = w2
      have he2 : Ext w w2 := by rw [← hw]; exact he.drew
      clear hw he
      go_wp2_with fail
      refine (eqHead_same d _).mono ?_
      rintro e w1 ⟨rfl, h1⟩
      replace he2 := he2.next h1; clear h1 c0 c1 c2 c3 c4 b0 b1 b2 b3 b4
      go_wp2_with fail
      go_roundw
      case rel => exact ⟨k + 1, by omega, by go_num, he2⟩
      case measure => simp [intOf]; omega
    · go_wp2_with fail
      go_ret
      exact ⟨rfl, he⟩
end Go.Proofs.YtichegndafnjeaaGreat

/-
  Hashes of entries and of receipts: walks. No condition.
-/
import Derived.Test.YtichegndafnjeaaPath
import Derived.Test.YtichegndafnjeaaLeafText
namespace Go.Proofs.Ytichegndafnjeaa
open Go.RowKit
set_option linter.unusedVariables false

def leafHOk (n : Int) (e : EntryD) : Bool := entryOk e && digestOk n 0 (leafText e)
def leafH (n : Int) (e : EntryD) : ByteArray := if entryOk e then digest n 0 (leafText e) else ⟨#[]⟩
def recHOk (n : Int) (r : ReceiptD) : Bool := receiptOk r && digestOk n 2 (receiptText r)
def recH (n : Int) (r : ReceiptD) : ByteArray := if receiptOk r then digest n 2 (receiptText r) else ⟨#[]⟩
theorem octB_size1 (k : Int) : (octB k).size = 1 := rfl
theorem leafText_size (d : EntryD) : (leafText d).size ≤ 1000 := by
  unfold leafText
  by_cases h : entryOk d = true
  · have := entryOk_bounds h
    rw [if_pos h, leafT]
    have e : (lowB d.time.toNat 4).size = 4 := rfl
    have e1 : (⟨#[69]⟩ : ByteArray).size = 1 := rfl
    simp only [ByteArray.size_append, octB_size1, e, e1]
    omega
  · rw [if_neg h]; decide
theorem receiptText_size (d : ReceiptD) : (receiptText d).size ≤ 1000 := by
  unfold receiptText
  by_cases h : receiptOk d = true
  · have h' := h
    simp only [receiptOk, Bool.and_eq_true] at h'
    have s1 := nameOk_size h'.1.1
    have s2 := nameOk_size h'.1.2
    rw [if_pos h, receiptT]
    have e1 : (⟨#[82]⟩ : ByteArray).size = 1 := rfl
    simp only [ByteArray.size_append, octB_size1, e1]
    omega
  · rw [if_neg h]; decide
theorem small_max {b : ByteArray} (h : b.size ≤ 1000) : b.size ≤ maxLen := by unfold maxLen; omega
theorem leafH_yes {n : Int} {e : EntryD} (h : entryOk e = true) : leafH n e = digest n 0 (leafText e) ∧ leafHOk n e = digestOk n 0 (leafText e) := by simp [leafH, leafHOk, h]
theorem leafH_no {n : Int} {e : EntryD} (h : entryOk e = false) : leafH n e = ⟨#[]⟩ ∧ leafHOk n e = false := by simp [leafH, leafHOk, h]
theorem recH_yes {n : Int} {e : ReceiptD} (h : receiptOk e = true) : recH n e = digest n 2 (receiptText e) ∧ recHOk n e = digestOk n 2 (receiptText e) := by simp [recH, recHOk, h]
theorem recH_no {n : Int} {e : ReceiptD} (h : receiptOk e = false) : recH n e = ⟨#[]⟩ ∧ recHOk n e = false := by simp [recH, recHOk, h]
set_option maxHeartbeats 1000000 in
theorem specLeafHash_any (n : Int) (d : EntryD) (w : World) (hd : d.Ok) : Calls Try.prog 113 #[.int .i64 n, .agg #[.string d.topic, .int .i64 d.index, .int .i64 d.time, .string d.key, .string d.body]] w fun e w' => e = .returned (.tuple #[.string (leafH n d), .bool (leafHOk n d)]) ∧ Ext w w' := by
  have Hd := Lib.hid hd; clear hd
  cases b : entryOk d
  · obtain ⟨e1, e2⟩ := leafH_no (n := n) b
    rw [e1, e2]
    go_enter Try.func113, Try.ntmps113
    go_wp2_with fail
    refine (specLeafText_any d _ Hd.out).mono ?_
    rintro e w1 ⟨rfl, h1⟩
    rw [b]
    go_wp2_with fail
    go_ret2
    exact ⟨rfl, by first | exact h1 | exact Ext.next (Ext.new (Below.refl _ _) _) h1⟩
  · obtain ⟨e1, e2⟩ := leafH_yes (n := n) b
    rw [e1, e2]
    have hs := small_max (leafText_size d)
    go_enter Try.func113, Try.ntmps113
    go_wp2_with fail
    refine (specLeafText_any d _ Hd.out).mono ?_
    rintro e w1 ⟨rfl, h1⟩
    rw [b]
    go_wp2_with fail
    refine (specDigest_any n 0 (leafText d) _ hs).mono ?_
    rintro e w2 ⟨rfl, h2⟩
    go_wp2_with fail
    go_ret2
    exact ⟨rfl, by first | exact h1.next h2 | exact Ext.next (Ext.new (Below.refl _ _) _) (h1.next h2)⟩
end Go.Proofs.Ytichegndafnjeaa

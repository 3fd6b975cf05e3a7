/-
  Two right entries have one text just when they are the same; no entry's text is a receipt's: plain. No condition.
-/
import Derived.Test.YtichegndafnjeaaLeafBk
namespace Go.Proofs.Ytichegndafnjeaa
open Go.RowKit
set_option linter.unusedVariables false

theorem rec_kind {d : ReceiptD} (h : receiptOk d = true) : rdTake (receiptText d) ⟨0, false⟩ 1 = ⟨#[82]⟩ := by
  have R0 := Rest.start (receiptText d)
  have e : ∃ Y, receiptText d = ⟨#[82]⟩ ++ Y := by
    rw [receiptText, if_pos h, receiptT]
    simp only [ByteArray.append_assoc]
    exact ⟨_, rfl⟩
  obtain ⟨Y, e⟩ := e
  generalize receiptText d = T at *
  rw [e] at R0
  obtain ⟨p0, _⟩ := R0.take (n := 1) rfl
  rw [← e] at p0
  exact p0
theorem leaf_kind {d : EntryD} (h : entryOk d = true) : rdTake (leafText d) ⟨0, false⟩ 1 = ⟨#[69]⟩ := by
  have R0 := Rest.start (leafText d)
  have e : ∃ Y, leafText d = ⟨#[69]⟩ ++ Y := by
    rw [leafText, if_pos h, leafT]
    simp only [ByteArray.append_assoc]
    exact ⟨_, rfl⟩
  obtain ⟨Y, e⟩ := e
  generalize leafText d = T at *
  rw [e] at R0
  obtain ⟨p0, _⟩ := R0.take (n := 1) rfl
  rw [← e] at p0
  exact p0
theorem receipt_no_leaf {d : ReceiptD} (h : receiptOk d = true) : rlImpl (receiptText d) = false := by
  rw [rlImpl, rlKind, show rdTake (receiptText d) rl0 1 = _ from rec_kind h, show ((⟨#[82]⟩ : ByteArray).toList == [69]) = false by decide +kernel]
  rfl
theorem leaf_no_receipt {d : EntryD} (h : entryOk d = true) : rrImpl (leafText d) = false := by
  rw [rrImpl, rrKind, show rdTake (leafText d) rr0 1 = _ from leaf_kind h, show ((⟨#[69]⟩ : ByteArray).toList == [82]) = false by decide +kernel]
  rfl
theorem leaf_one {a b : EntryD} (ha : entryOk a = true) (hb : entryOk b = true) (h : leafText a = leafText b) : a = b := by
  rw [← (leaf_back ha).2, ← (leaf_back hb).2, h]
end Go.Proofs.Ytichegndafnjeaa

/-
  Receipts: walks. No condition.
-/
import Derived.Test.YtichegndafnjeaaTexts
namespace Go.Proofs.Ytichegndafnjeaa
open Go.RowKit
set_option linter.unusedVariables false

theorem isIndex_any (n : Int) (w : World) : Calls Try.prog 115 #[.int .i64 n] w fun e w' => e = .returned (.bool (inR n 0 511)) ∧ w = w' := by
  go_enter Try.func115, Try.ntmps115
  go_wp2_with fail
  refine (inRange_any _ _ _ _).mono ?_
  rintro e w1 ⟨rfl, rfl⟩
  go_wp2_with fail
  go_ret
  exact ⟨rfl, rfl⟩
def receiptOk (d : ReceiptD) : Bool := nameOk d.reader && nameOk d.topic && inR d.index 0 511
def receiptT (d : ReceiptD) : ByteArray := ⟨#[82]⟩ ++ (octB d.reader.size ++ d.reader) ++ (octB d.topic.size ++ d.topic) ++ (octB (d.index / 256) ++ octB d.index)
def receiptText (d : ReceiptD) : ByteArray := if receiptOk d then receiptT d else ⟨#[]⟩
theorem nameOk_size {s : ByteArray} (h : nameOk s = true) : s.size ≤ 20 := by
  simp only [nameOk, Bool.and_eq_true] at h
  have := (inR_true h.1).2
  omega
theorem ReceiptOk_any (d : ReceiptD) (w : World) (hd : d.Ok) : Calls Try.prog 62 #[.agg #[.string d.reader, .string d.topic, .int .i64 d.index]] w fun e w' => e = .returned (.bool (receiptOk d)) ∧ Ext w w' := by
  obtain ⟨k0, k1, _⟩ := hd
  cases b1 : nameOk d.reader <;> cases b2 : nameOk d.topic
  all_goals
    go_enter Try.func62, Try.ntmps62
    go_wp2_with (first | (go_at_call_of 114 (Value.string d.reader); refine (NameOk_any _ _ k0).mono ?_; rintro e w' ⟨rfl, rfl⟩) | (go_at_call_of 114 (Value.string d.topic); refine (NameOk_any _ _ k1).mono ?_; rintro e w' ⟨rfl, rfl⟩) | (go_at_call 115; refine (isIndex_any _ _).mono ?_; rintro e w' ⟨rfl, rfl⟩))
    go_ret
    exact ⟨by simp [receiptOk, b1, b2], by go_grown⟩
set_option maxHeartbeats 2000000 in
set_option maxRecDepth 100000 in
theorem ReceiptText_any (d : ReceiptD) (w : World) (hd : d.Ok) : Calls Try.prog 21 #[.agg #[.string d.reader, .string d.topic, .int .i64 d.index]] w fun e w' => e = .returned (.tuple #[.string (receiptText d), .bool (receiptOk d)]) ∧ Ext w w' := by
  cases b : receiptOk d
  · have Ht := Lib.hid (show receiptText d = ⟨#[]⟩ by simp [receiptText, b])
    go_enter Try.func21, Try.ntmps21
    go_wp2_with fail
    have he := Ext.new (Below.refl w.heap.size w) (.cells #[.string d.reader, .string d.topic, .int .i64 d.index] 46)
    refine (ReceiptOk_any d _ hd).mono ?_
    rintro e w1 ⟨rfl, h1⟩
    replace he := he.next h1
    go_wp2_with fail
    go_ret2
    exact ⟨by rw [Ht.out]; rfl, he⟩
  · have Ht := Lib.hid (show receiptText d = receiptT d by simp [receiptText, b])
    have hb := b
    simp only [receiptOk, Bool.and_eq_true] at hb
    have z1 := nameOk_size hb.1.1
    have z2 := nameOk_size hb.1.2
    have z3 := inR_true hb.2
    obtain ⟨z3, z4⟩ := z3
    clear hb
    have y1 : (octB (d.reader.size : Int)).size ≤ 1 := Nat.le_refl _
    have y2 : (octB (d.topic.size : Int)).size ≤ 1 := Nat.le_refl _
    have y3 : (octB (d.index / 256)).size ≤ 1 := Nat.le_refl _
    have y4 : (octB d.index).size ≤ 1 := Nat.le_refl _
    have n1 : ¬ 9223372036854775807 < 1 + ((octB (d.reader.size : Int)).size + d.reader.size) := by omega
    have n2 : ¬ 9223372036854775807 < 1 + ((octB (d.reader.size : Int)).size + d.reader.size) + ((octB (d.topic.size : Int)).size + d.topic.size) := by omega
    have n3 : ¬ 9223372036854775807 < 1 + ((octB (d.reader.size : Int)).size + d.reader.size) + ((octB (d.topic.size : Int)).size + d.topic.size) + ((octB (d.index / 256)).size + (octB d.index).size) := by omega
    go_enter Try.func21, Try.ntmps21
    go_wp2_with fail
    have hB := Blk.new w 46 #[.string d.reader, .string d.topic, .int .i64 d.index]
    have he := Ext.new (Below.refl w.heap.size w) (.cells #[.string d.reader, .string d.topic, .int .i64 d.index] 46)
    refine (ReceiptOk_any d _ hd).mono ?_
    rintro e w1 ⟨rfl, h1⟩
    replace he := he.next h1; replace hB := hB.ext h1; clear h1
    obtain ⟨g, hg⟩ : ∃ g, g = w.heap.size := ⟨_, rfl⟩
    rw [← hg] at hB
    rw [← hg]
    clear hg
    have c0 : w1.cell? ⟨g, 0, none⟩ = some (.string d.reader) := hB.cell 0
    have c1 : w1.cell? ⟨g, 1, none⟩ = some (.string d.topic) := hB.cell 1
    have c2 : w1.cell? ⟨g, 2, none⟩ = some (.int .i64 d.index) := hB.cell 2
    go_wp2_with fail
    go_region_held3 (fun w' => w'.cell? ⟨g, 0, none⟩ = some (.string d.reader) ∧ w'.cell? ⟨g, 1, none⟩ = some (.string d.topic) ∧ w'.cell? ⟨g, 2, none⟩ = some (.int .i64 d.index) ∧ Blk w' g 46 #[.string d.reader, .string d.topic, .int .i64 d.index] ∧ Ext w w')
      (first
        | exact ⟨c0, c1, c2, hB.drew, he.drew⟩
        | (go_split_ands; refine ⟨?_, ?_, ?_, ?_, ?_⟩ <;> assumption)
        | (go_split_ands; have hB' := Blk.ext (by assumption) h1; exact ⟨hB'.cell 0, hB'.cell 1, hB'.cell 2, hB', Ext.next (by assumption) h1⟩))
      (first
        | (go_at_call_of 59 (Value.string d.reader); refine (shortS_any _ _ (by omega)).mono ?_; rintro e w' ⟨rfl, h1⟩)
        | (go_at_call_of 59 (Value.string d.topic); refine (shortS_any _ _ (by omega)).mono ?_; rintro e w' ⟨rfl, h1⟩)
        | (go_at_call 60; refine (pair_any _ _ (by omega) (by omega)).mono ?_; rintro e w' ⟨rfl, h1⟩))
    all_goals
      go_wp2_with fail
      go_ret2
      refine ⟨by rw [Ht.out]; rfl, ?_⟩
      go_split_ands
      assumption
end Go.Proofs.Ytichegndafnjeaa

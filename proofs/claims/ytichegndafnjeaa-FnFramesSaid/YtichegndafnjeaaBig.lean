/-
  What laws over drawn things share: the bound on their bytes, a drawn deed. No condition.
-/
import Derived.Test.YtichegndafnjeaaLeafBk
import Derived.Test.YtichegndafnjeaaDraw3
namespace Go.Proofs.Ytichegndafnjeaa
open Go.RowKit
set_option linter.unusedVariables false

theorem topics_ok : ∀ t ∈ topics, nameOk t = true := by decide +kernel
theorem whos_ok : ∀ t ∈ whos, nameOk t = true := by decide +kernel
theorem byte_typed {w : World} {n : Nat} {cs : List Value} (h : Typed Try.prog w n 5 cs) : ∃ x, cs = byteC x ∧ ByteIn x := by
  obtain ⟨m, rfl, hw⟩ := typed_int Try.underlying5 h
  refine ⟨m, rfl, ?_⟩
  simp [Lit.wf, IntKind.min, IntKind.max, IntKind.signed, IntKind.bits] at hw
  exact ⟨by omega, by omega⟩
theorem big_any (A : Option Addr) (n c : Nat) (w : World) (h : n ≤ maxLen) : Calls Try.prog 7 #[.slice A n c] w fun e w' => e = .returned (.bool (decide (1048576 < n))) ∧ w = w' := by
  by_cases hb : 1048576 < n
  · have hd : decide (1048576 < n) = true := decide_eq_true hb
    rw [hd]
    go_enter Try.func7, Try.ntmps7
    go_wp2_with fail
    go_ret
    exact ⟨ret_bool (by simp; omega), rfl⟩
  · have hd : decide (1048576 < n) = false := decide_eq_false hb
    rw [hd]
    go_enter Try.func7, Try.ntmps7
    go_wp2_with fail
    go_ret
    exact ⟨ret_bool (by simp; omega), rfl⟩
/-- A drawn deed: a right entry, a right receipt. -/
theorem deed_any (A : Option Addr) (c : Nat) (l : List Int) (w : World) (hlen : l.length ≤ maxLen) (hin : ∀ x ∈ l, ByteIn x) (hr : ReadsL w w.heap.size byteC 1 A l) :
    Calls Try.prog 18 #[.slice A l.length c] w fun e w' => Ext w w' ∧ ∃ (x : Int) (d : EntryD) (r : ReceiptD) (sl : Value), entryOk d = true ∧ d.Ok ∧ receiptOk r = true ∧ r.Ok ∧ e = .returned (.tuple #[.int .i64 x, .agg #[.string d.topic, .int .i64 d.index, .int .i64 d.time, .string d.key, .string d.body], .agg #[.string r.reader, .string r.topic, .int .i64 r.index], sl]) := by
  refine (DrawDeed_any A c l w hlen hin hr).mono ?_
  rintro e w1 ⟨he, x, t1, n1, s1, s2, who, t2, n2, sl, h1, h2, h3, h4, h5, h6, h7, h8, rfl⟩
  have k1 := topics_ok _ h1
  have k2 := topics_ok _ h5
  have k3 := whos_ok _ h4
  have z1 := nameOk_size k1
  have z2 := nameOk_size k2
  have z3 := nameOk_size k3
  refine ⟨he, x, ⟨t1, 0, (n1 : Int), s1, s2⟩, ⟨who, t2, n2⟩, sl, ?_, ?_, ?_, ?_, rfl⟩
  · simp [entryOk, k1, inR, partsB]; omega
  · refine ⟨?_, rfl, ?_, ?_, ?_⟩
    · show t1.size ≤ maxLen; unfold maxLen; omega
    · show (Lit.int .i64 (n1 : Int)).wf = true
      simp [Lit.wf, IntKind.min, IntKind.max, IntKind.signed, IntKind.bits]; omega
    · show s1.size ≤ maxLen; unfold maxLen; omega
    · show s2.size ≤ maxLen; unfold maxLen; omega
  · simp [receiptOk, k2, k3, inR]; omega
  · refine ⟨?_, ?_, ?_⟩
    · show who.size ≤ maxLen; unfold maxLen; omega
    · show t2.size ≤ maxLen; unfold maxLen; omega
    · show (Lit.int .i64 n2).wf = true
      simp [Lit.wf, IntKind.min, IntKind.max, IntKind.signed, IntKind.bits]; omega
theorem rlRes_yes (d : EntryD) : rlRes true d = .returned (.tuple #[.agg #[.string d.topic, .int .i64 d.index, .int .i64 d.time, .string d.key, .string d.body], .bool true]) := rfl
theorem rrRes_yes (d : ReceiptD) : rrRes true d = .returned (.tuple #[.agg #[.string d.reader, .string d.topic, .int .i64 d.index], .bool true]) := rfl
theorem leafText_small (d : EntryD) (h : entryOk d = true) : (leafText d).size ≤ 1099511627776 := by
  have := entryOk_bounds h
  rw [leafText, if_pos h, leafT]
  have e : (lowB d.time.toNat 4).size = 4 := rfl
  have e1 : (⟨#[69]⟩ : ByteArray).size = 1 := rfl
  have e2 : ∀ k, (octB k).size = 1 := fun _ => rfl
  simp only [ByteArray.size_append, e2, e, e1]
  omega
theorem receiptText_small (d : ReceiptD) (h : receiptOk d = true) : (receiptText d).size ≤ 1099511627776 := by
  have h' := h
  simp only [receiptOk, Bool.and_eq_true] at h'
  have s1 := nameOk_size h'.1.1
  have s2 := nameOk_size h'.1.2
  rw [receiptText, if_pos h, receiptT]
  have e1 : (⟨#[82]⟩ : ByteArray).size = 1 := rfl
  have e2 : ∀ k, (octB k).size = 1 := fun _ => rfl
  simp only [ByteArray.size_append, e2, e1]
  omega
end Go.Proofs.Ytichegndafnjeaa

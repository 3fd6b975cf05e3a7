/-
  '==' and '!=' on the program's flat structs. Written by program (gen_eqs.py). No condition.
-/
import Derived.Test.YtkcjhfidgnbdiaaTypes
import Derived.Laws.StructEq
namespace Go.Proofs.Ytkcjhfidgnbdiaa
set_option linter.unusedSimpArgs false
open Go.RowKit
set_option linter.unusedVariables false
theorem bytes_ext {a b : ByteArray} (h : a.toList = b.toList) : a = b := by
  rw [ByteArray.toList_eq, ByteArray.toList_eq] at h
  obtain ⟨⟨x⟩⟩ := a
  obtain ⟨⟨y⟩⟩ := b
  have h : x = y := h
  rw [h]
theorem bytes_eq_iff {a b : ByteArray} : a.toList = b.toList ↔ a = b := ⟨bytes_ext, fun h => by rw [h]⟩
def EntryD.eqb (d e : EntryD) : Bool := (d.topic.toList == e.topic.toList) && (d.index == e.index) && (d.time == e.time) && (d.key.toList == e.key.toList) && (d.body.toList == e.body.toList)
theorem EntryD.eqb_iff (d e : EntryD) : d.eqb e = true ↔ d = e := by
  obtain ⟨a0, a1, a2, a3, a4⟩ := d
  obtain ⟨b0, b1, b2, b3, b4⟩ := e
  simp only [EntryD.eqb, Bool.and_eq_true, beq_iff_eq, bytes_eq_iff, EntryD.mk.injEq, and_assoc]
theorem EntryD.eqb_self (d : EntryD) : d.eqb d = true := (EntryD.eqb_iff d d).2 rfl
set_option maxHeartbeats 1000000 in
theorem EntryD.run_eql (d e : EntryD) (w : World) : (binOp .eql 121 (.agg #[.string d.topic, .int .i64 d.index, .int .i64 d.time, .string d.key, .string d.body]) (.agg #[.string e.topic, .int .i64 e.index, .int .i64 e.time, .string e.key, .string e.body])).run Try.prog w = .ok (.bool (d.eqb e)) w := by
  go_simp
  unfold EntryD.eqb
  (repeat' split) <;> simp [*]
set_option maxHeartbeats 1000000 in
theorem EntryD.run_neq (d e : EntryD) (w : World) : (binOp .neq 121 (.agg #[.string d.topic, .int .i64 d.index, .int .i64 d.time, .string d.key, .string d.body]) (.agg #[.string e.topic, .int .i64 e.index, .int .i64 e.time, .string e.key, .string e.body])).run Try.prog w = .ok (.bool (!(d.eqb e))) w := by
  go_simp
  unfold EntryD.eqb
  (repeat' split) <;> simp [*]
def ReceiptD.eqb (d e : ReceiptD) : Bool := (d.reader.toList == e.reader.toList) && (d.topic.toList == e.topic.toList) && (d.index == e.index)
theorem ReceiptD.eqb_iff (d e : ReceiptD) : d.eqb e = true ↔ d = e := by
  obtain ⟨a0, a1, a2⟩ := d
  obtain ⟨b0, b1, b2⟩ := e
  simp only [ReceiptD.eqb, Bool.and_eq_true, beq_iff_eq, bytes_eq_iff, ReceiptD.mk.injEq, and_assoc]
theorem ReceiptD.eqb_self (d : ReceiptD) : d.eqb d = true := (ReceiptD.eqb_iff d d).2 rfl
set_option maxHeartbeats 1000000 in
theorem ReceiptD.run_eql (d e : ReceiptD) (w : World) : (binOp .eql 126 (.agg #[.string d.reader, .string d.topic, .int .i64 d.index]) (.agg #[.string e.reader, .string e.topic, .int .i64 e.index])).run Try.prog w = .ok (.bool (d.eqb e)) w := by
  go_simp
  unfold ReceiptD.eqb
  (repeat' split) <;> simp [*]
set_option maxHeartbeats 1000000 in
theorem ReceiptD.run_neq (d e : ReceiptD) (w : World) : (binOp .neq 126 (.agg #[.string d.reader, .string d.topic, .int .i64 d.index]) (.agg #[.string e.reader, .string e.topic, .int .i64 e.index])).run Try.prog w = .ok (.bool (!(d.eqb e))) w := by
  go_simp
  unfold ReceiptD.eqb
  (repeat' split) <;> simp [*]
def HeadD.eqb (d e : HeadD) : Bool := (d.number == e.number) && (d.size == e.size) && (d.root.toList == e.root.toList) && (d.taken == e.taken) && (d.takenRoot.toList == e.takenRoot.toList)
theorem HeadD.eqb_iff (d e : HeadD) : d.eqb e = true ↔ d = e := by
  obtain ⟨a0, a1, a2, a3, a4⟩ := d
  obtain ⟨b0, b1, b2, b3, b4⟩ := e
  simp only [HeadD.eqb, Bool.and_eq_true, beq_iff_eq, bytes_eq_iff, HeadD.mk.injEq, and_assoc]
theorem HeadD.eqb_self (d : HeadD) : d.eqb d = true := (HeadD.eqb_iff d d).2 rfl
set_option maxHeartbeats 1000000 in
theorem HeadD.run_eql (d e : HeadD) (w : World) : (binOp .eql 74 (.agg #[.int .i64 d.number, .int .i64 d.size, .string d.root, .int .i64 d.taken, .string d.takenRoot]) (.agg #[.int .i64 e.number, .int .i64 e.size, .string e.root, .int .i64 e.taken, .string e.takenRoot])).run Try.prog w = .ok (.bool (d.eqb e)) w := by
  go_simp
  unfold HeadD.eqb
  (repeat' split) <;> simp [*]
set_option maxHeartbeats 1000000 in
theorem HeadD.run_neq (d e : HeadD) (w : World) : (binOp .neq 74 (.agg #[.int .i64 d.number, .int .i64 d.size, .string d.root, .int .i64 d.taken, .string d.takenRoot]) (.agg #[.int .i64 e.number, .int .i64 e.size, .string e.root, .int .i64 e.taken, .string e.takenRoot])).run Try.prog w = .ok (.bool (!(d.eqb e))) w := by
  go_simp
  unfold HeadD.eqb
  (repeat' split) <;> simp [*]
def CursorD.eqb (d e : CursorD) : Bool := (d.topic.toList == e.topic.toList) && (d.next == e.next) && (d.last == e.last)
theorem CursorD.eqb_iff (d e : CursorD) : d.eqb e = true ↔ d = e := by
  obtain ⟨a0, a1, a2⟩ := d
  obtain ⟨b0, b1, b2⟩ := e
  simp only [CursorD.eqb, Bool.and_eq_true, beq_iff_eq, bytes_eq_iff, CursorD.mk.injEq, and_assoc]
theorem CursorD.eqb_self (d : CursorD) : d.eqb d = true := (CursorD.eqb_iff d d).2 rfl
set_option maxHeartbeats 1000000 in
theorem CursorD.run_eql (d e : CursorD) (w : World) : (binOp .eql 151 (.agg #[.string d.topic, .int .i64 d.next, .int .i64 d.last]) (.agg #[.string e.topic, .int .i64 e.next, .int .i64 e.last])).run Try.prog w = .ok (.bool (d.eqb e)) w := by
  go_simp
  unfold CursorD.eqb
  (repeat' split) <;> simp [*]
set_option maxHeartbeats 1000000 in
theorem CursorD.run_neq (d e : CursorD) (w : World) : (binOp .neq 151 (.agg #[.string d.topic, .int .i64 d.next, .int .i64 d.last]) (.agg #[.string e.topic, .int .i64 e.next, .int .i64 e.last])).run Try.prog w = .ok (.bool (!(d.eqb e))) w := by
  go_simp
  unfold CursorD.eqb
  (repeat' split) <;> simp [*]
def PreD.eqb (d e : PreD) : Bool := (d.tag == e.tag) && (d.text.toList == e.text.toList)
theorem PreD.eqb_iff (d e : PreD) : d.eqb e = true ↔ d = e := by
  obtain ⟨a0, a1⟩ := d
  obtain ⟨b0, b1⟩ := e
  simp only [PreD.eqb, Bool.and_eq_true, beq_iff_eq, bytes_eq_iff, PreD.mk.injEq, and_assoc]
theorem PreD.eqb_self (d : PreD) : d.eqb d = true := (PreD.eqb_iff d d).2 rfl
set_option maxHeartbeats 1000000 in
theorem PreD.run_eql (d e : PreD) (w : World) : (binOp .eql 39 (.agg #[.int .i64 d.tag, .string d.text]) (.agg #[.int .i64 e.tag, .string e.text])).run Try.prog w = .ok (.bool (d.eqb e)) w := by
  go_simp
  unfold PreD.eqb
  (repeat' split) <;> simp [*]
set_option maxHeartbeats 1000000 in
theorem PreD.run_neq (d e : PreD) (w : World) : (binOp .neq 39 (.agg #[.int .i64 d.tag, .string d.text]) (.agg #[.int .i64 e.tag, .string e.text])).run Try.prog w = .ok (.bool (!(d.eqb e))) w := by
  go_simp
  unfold PreD.eqb
  (repeat' split) <;> simp [*]
end Go.Proofs.Ytkcjhfidgnbdiaa

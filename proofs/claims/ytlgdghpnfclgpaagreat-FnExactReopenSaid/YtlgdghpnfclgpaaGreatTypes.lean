/-
  The flat structs of the program, as Lean structures, their cells, and how cells read as them. Written by program (gen_types.py). No condition.
-/
import Derived.Test.YtlgdghpnfclgpaaGreatProg
import Derived.Test.YtlgdghpnfclgpaaGreatMem
namespace Go.Proofs.YtlgdghpnfclgpaaGreat
set_option linter.unusedSimpArgs false
open Go.RowKit
set_option linter.unusedVariables false
structure EntryD where
 topic : ByteArray
 index : Int
 time : Int
 key : ByteArray
 body : ByteArray
def EntryD.cells (d : EntryD) : List Value := [.string d.topic, .int .i64 d.index, .int .i64 d.time, .string d.key, .string d.body]
theorem EntryD.cells_length (d : EntryD) : d.cells.length = 5 := rfl
def EntryD.Ok (d : EntryD) : Prop := d.topic.size ≤ maxLen ∧ (Lit.int .i64 d.index).wf = true ∧ (Lit.int .i64 d.time).wf = true ∧ d.key.size ≤ maxLen ∧ d.body.size ≤ maxLen
structure ReceiptD where
 reader : ByteArray
 topic : ByteArray
 index : Int
def ReceiptD.cells (d : ReceiptD) : List Value := [.string d.reader, .string d.topic, .int .i64 d.index]
theorem ReceiptD.cells_length (d : ReceiptD) : d.cells.length = 3 := rfl
def ReceiptD.Ok (d : ReceiptD) : Prop := d.reader.size ≤ maxLen ∧ d.topic.size ≤ maxLen ∧ (Lit.int .i64 d.index).wf = true
structure WriteD where
 file : Int
 at_ : Int
 text : ByteArray
def WriteD.cells (d : WriteD) : List Value := [.int .i64 d.file, .int .i64 d.at_, .string d.text]
theorem WriteD.cells_length (d : WriteD) : d.cells.length = 3 := rfl
def WriteD.Ok (d : WriteD) : Prop := (Lit.int .i64 d.file).wf = true ∧ (Lit.int .i64 d.at_).wf = true ∧ d.text.size ≤ maxLen
structure HeadD where
 number : Int
 size : Int
 root : ByteArray
 taken : Int
 takenRoot : ByteArray
def HeadD.cells (d : HeadD) : List Value := [.int .i64 d.number, .int .i64 d.size, .string d.root, .int .i64 d.taken, .string d.takenRoot]
theorem HeadD.cells_length (d : HeadD) : d.cells.length = 5 := rfl
def HeadD.Ok (d : HeadD) : Prop := (Lit.int .i64 d.number).wf = true ∧ (Lit.int .i64 d.size).wf = true ∧ d.root.size ≤ maxLen ∧ (Lit.int .i64 d.taken).wf = true ∧ d.takenRoot.size ≤ maxLen
structure CursorD where
 topic : ByteArray
 next : Int
 last : Int
def CursorD.cells (d : CursorD) : List Value := [.string d.topic, .int .i64 d.next, .int .i64 d.last]
theorem CursorD.cells_length (d : CursorD) : d.cells.length = 3 := rfl
def CursorD.Ok (d : CursorD) : Prop := d.topic.size ≤ maxLen ∧ (Lit.int .i64 d.next).wf = true ∧ (Lit.int .i64 d.last).wf = true
structure EvidenceD where
 width : Int
 a : HeadD
 b : HeadD
def EvidenceD.cells (d : EvidenceD) : List Value := [.int .i64 d.width, .int .i64 d.a.number, .int .i64 d.a.size, .string d.a.root, .int .i64 d.a.taken, .string d.a.takenRoot, .int .i64 d.b.number, .int .i64 d.b.size, .string d.b.root, .int .i64 d.b.taken, .string d.b.takenRoot]
theorem EvidenceD.cells_length (d : EvidenceD) : d.cells.length = 11 := rfl
def EvidenceD.Ok (d : EvidenceD) : Prop := (Lit.int .i64 d.width).wf = true ∧ (Lit.int .i64 d.a.number).wf = true ∧ (Lit.int .i64 d.a.size).wf = true ∧ d.a.root.size ≤ maxLen ∧ (Lit.int .i64 d.a.taken).wf = true ∧ d.a.takenRoot.size ≤ maxLen ∧ (Lit.int .i64 d.b.number).wf = true ∧ (Lit.int .i64 d.b.size).wf = true ∧ d.b.root.size ≤ maxLen ∧ (Lit.int .i64 d.b.taken).wf = true ∧ d.b.takenRoot.size ≤ maxLen
structure PreD where
 tag : Int
 text : ByteArray
def PreD.cells (d : PreD) : List Value := [.int .i64 d.tag, .string d.text]
theorem PreD.cells_length (d : PreD) : d.cells.length = 2 := rfl
def PreD.Ok (d : PreD) : Prop := (Lit.int .i64 d.tag).wf = true ∧ d.text.size ≤ maxLen
structure ActD where
 kind : Int
 who : Int
 other : Int
 topic : ByteArray
 index : Int
 time : Int
 key : ByteArray
 body : ByteArray
 cut : Bool
 whole_ : Int
 part_ : Int
 again : Int
def ActD.cells (d : ActD) : List Value := [.int .i64 d.kind, .int .i64 d.who, .int .i64 d.other, .string d.topic, .int .i64 d.index, .int .i64 d.time, .string d.key, .string d.body, .bool d.cut, .int .i64 d.whole_, .int .i64 d.part_, .int .i64 d.again]
theorem ActD.cells_length (d : ActD) : d.cells.length = 12 := rfl
def ActD.Ok (d : ActD) : Prop := (Lit.int .i64 d.kind).wf = true ∧ (Lit.int .i64 d.who).wf = true ∧ (Lit.int .i64 d.other).wf = true ∧ d.topic.size ≤ maxLen ∧ (Lit.int .i64 d.index).wf = true ∧ (Lit.int .i64 d.time).wf = true ∧ d.key.size ≤ maxLen ∧ d.body.size ≤ maxLen ∧ (Lit.int .i64 d.whole_).wf = true ∧ (Lit.int .i64 d.part_).wf = true ∧ (Lit.int .i64 d.again).wf = true
structure MoveD where
 kind : Int
 who : Int
 other : Int
 topic : ByteArray
 index : Int
 text : ByteArray
def MoveD.cells (d : MoveD) : List Value := [.int .i64 d.kind, .int .i64 d.who, .int .i64 d.other, .string d.topic, .int .i64 d.index, .string d.text]
theorem MoveD.cells_length (d : MoveD) : d.cells.length = 6 := rfl
def MoveD.Ok (d : MoveD) : Prop := (Lit.int .i64 d.kind).wf = true ∧ (Lit.int .i64 d.who).wf = true ∧ (Lit.int .i64 d.other).wf = true ∧ d.topic.size ≤ maxLen ∧ (Lit.int .i64 d.index).wf = true ∧ d.text.size ≤ maxLen
structure GivenD where
 who : Int
 leaf : Int
 entry : EntryD
def GivenD.cells (d : GivenD) : List Value := [.int .i64 d.who, .int .i64 d.leaf, .string d.entry.topic, .int .i64 d.entry.index, .int .i64 d.entry.time, .string d.entry.key, .string d.entry.body]
theorem GivenD.cells_length (d : GivenD) : d.cells.length = 7 := rfl
def GivenD.Ok (d : GivenD) : Prop := (Lit.int .i64 d.who).wf = true ∧ (Lit.int .i64 d.leaf).wf = true ∧ d.entry.topic.size ≤ maxLen ∧ (Lit.int .i64 d.entry.index).wf = true ∧ (Lit.int .i64 d.entry.time).wf = true ∧ d.entry.key.size ≤ maxLen ∧ d.entry.body.size ≤ maxLen
structure MeetingD where
 a : Int
 b : Int
 given : Int
 scans : Bool
def MeetingD.cells (d : MeetingD) : List Value := [.int .i64 d.a, .int .i64 d.b, .int .i64 d.given, .bool d.scans]
theorem MeetingD.cells_length (d : MeetingD) : d.cells.length = 4 := rfl
def MeetingD.Ok (d : MeetingD) : Prop := (Lit.int .i64 d.a).wf = true ∧ (Lit.int .i64 d.b).wf = true ∧ (Lit.int .i64 d.given).wf = true
structure EventD where
 kind : Int
 who : Int
 leaf : Int
 code : Int
def EventD.cells (d : EventD) : List Value := [.int .i64 d.kind, .int .i64 d.who, .int .i64 d.leaf, .int .i64 d.code]
theorem EventD.cells_length (d : EventD) : d.cells.length = 4 := rfl
def EventD.Ok (d : EventD) : Prop := (Lit.int .i64 d.kind).wf = true ∧ (Lit.int .i64 d.who).wf = true ∧ (Lit.int .i64 d.leaf).wf = true ∧ (Lit.int .i64 d.code).wf = true
set_option maxRecDepth 100000 in
theorem EntryD.typed {w : World} {n : Nat} {cs : List Value} (h : Typed Tryz.prog w n 212 cs) : ∃ d : EntryD, cs = d.cells ∧ d.Ok := by
 obtain ⟨hl, m, hf⟩ := typed_struct Tryz.underlying212 h
 have hC : Tryz.prog.cellsOf 212 = 5 := by kernel_rfl
 have hI : Tryz.prog.cellsOf 3 = 1 := by kernel_rfl
 have hS : Tryz.prog.cellsOf 9 = 1 := by kernel_rfl
 rw [hC] at hl
 match cs, hl with
 | [c0, c1, c2, c3, c4], _ =>
   have f0 := hf _ (List.mem_iff_getElem?.2 ⟨0, rfl⟩)
   simp only [hS, List.drop_zero, List.take_succ_cons, List.take_zero] at f0
   obtain ⟨a0, e0, w0⟩ := typed_string Tryz.underlying9 f0
   obtain rfl : c0 = _ := by simpa using e0
   have f1 := hf _ (List.mem_iff_getElem?.2 ⟨1, rfl⟩)
   simp only [hI, List.drop_succ_cons, List.drop_zero, List.take_succ_cons, List.take_zero] at f1
   obtain ⟨a1, e1, w1⟩ := typed_int Tryz.underlying3 f1
   obtain rfl : c1 = _ := by simpa using e1
   have f2 := hf _ (List.mem_iff_getElem?.2 ⟨2, rfl⟩)
   simp only [hI, List.drop_succ_cons, List.drop_zero, List.take_succ_cons, List.take_zero] at f2
   obtain ⟨a2, e2, w2⟩ := typed_int Tryz.underlying3 f2
   obtain rfl : c2 = _ := by simpa using e2
   have f3 := hf _ (List.mem_iff_getElem?.2 ⟨3, rfl⟩)
   simp only [hS, List.drop_succ_cons, List.drop_zero, List.take_succ_cons, List.take_zero] at f3
   obtain ⟨a3, e3, w3⟩ := typed_string Tryz.underlying9 f3
   obtain rfl : c3 = _ := by simpa using e3
   have f4 := hf _ (List.mem_iff_getElem?.2 ⟨4, rfl⟩)
   simp only [hS, List.drop_succ_cons, List.drop_zero, List.take_succ_cons, List.take_zero] at f4
   obtain ⟨a4, e4, w4⟩ := typed_string Tryz.underlying9 f4
   obtain rfl : c4 = _ := by simpa using e4
   exact ⟨⟨a0, a1, a2, a3, a4⟩, rfl, by simp only [EntryD.Ok]; simp only [and_assoc] at *; simp [*]⟩
set_option maxRecDepth 100000 in
theorem ReceiptD.typed {w : World} {n : Nat} {cs : List Value} (h : Typed Tryz.prog w n 74 cs) : ∃ d : ReceiptD, cs = d.cells ∧ d.Ok := by
 obtain ⟨hl, m, hf⟩ := typed_struct Tryz.underlying74 h
 have hC : Tryz.prog.cellsOf 74 = 3 := by kernel_rfl
 have hI : Tryz.prog.cellsOf 3 = 1 := by kernel_rfl
 have hS : Tryz.prog.cellsOf 9 = 1 := by kernel_rfl
 rw [hC] at hl
 match cs, hl with
 | [c0, c1, c2], _ =>
   have f0 := hf _ (List.mem_iff_getElem?.2 ⟨0, rfl⟩)
   simp only [hS, List.drop_zero, List.take_succ_cons, List.take_zero] at f0
   obtain ⟨a0, e0, w0⟩ := typed_string Tryz.underlying9 f0
   obtain rfl : c0 = _ := by simpa using e0
   have f1 := hf _ (List.mem_iff_getElem?.2 ⟨1, rfl⟩)
   simp only [hS, List.drop_succ_cons, List.drop_zero, List.take_succ_cons, List.take_zero] at f1
   obtain ⟨a1, e1, w1⟩ := typed_string Tryz.underlying9 f1
   obtain rfl : c1 = _ := by simpa using e1
   have f2 := hf _ (List.mem_iff_getElem?.2 ⟨2, rfl⟩)
   simp only [hI, List.drop_succ_cons, List.drop_zero, List.take_succ_cons, List.take_zero] at f2
   obtain ⟨a2, e2, w2⟩ := typed_int Tryz.underlying3 f2
   obtain rfl : c2 = _ := by simpa using e2
   exact ⟨⟨a0, a1, a2⟩, rfl, by simp only [ReceiptD.Ok]; simp only [and_assoc] at *; simp [*]⟩
set_option maxRecDepth 100000 in
theorem HeadD.typed {w : World} {n : Nat} {cs : List Value} (h : Typed Tryz.prog w n 39 cs) : ∃ d : HeadD, cs = d.cells ∧ d.Ok := by
 obtain ⟨hl, m, hf⟩ := typed_struct Tryz.underlying39 h
 have hC : Tryz.prog.cellsOf 39 = 5 := by kernel_rfl
 have hI : Tryz.prog.cellsOf 3 = 1 := by kernel_rfl
 have hS : Tryz.prog.cellsOf 9 = 1 := by kernel_rfl
 rw [hC] at hl
 match cs, hl with
 | [c0, c1, c2, c3, c4], _ =>
   have f0 := hf _ (List.mem_iff_getElem?.2 ⟨0, rfl⟩)
   simp only [hI, List.drop_zero, List.take_succ_cons, List.take_zero] at f0
   obtain ⟨a0, e0, w0⟩ := typed_int Tryz.underlying3 f0
   obtain rfl : c0 = _ := by simpa using e0
   have f1 := hf _ (List.mem_iff_getElem?.2 ⟨1, rfl⟩)
   simp only [hI, List.drop_succ_cons, List.drop_zero, List.take_succ_cons, List.take_zero] at f1
   obtain ⟨a1, e1, w1⟩ := typed_int Tryz.underlying3 f1
   obtain rfl : c1 = _ := by simpa using e1
   have f2 := hf _ (List.mem_iff_getElem?.2 ⟨2, rfl⟩)
   simp only [hS, List.drop_succ_cons, List.drop_zero, List.take_succ_cons, List.take_zero] at f2
   obtain ⟨a2, e2, w2⟩ := typed_string Tryz.underlying9 f2
   obtain rfl : c2 = _ := by simpa using e2
   have f3 := hf _ (List.mem_iff_getElem?.2 ⟨3, rfl⟩)
   simp only [hI, List.drop_succ_cons, List.drop_zero, List.take_succ_cons, List.take_zero] at f3
   obtain ⟨a3, e3, w3⟩ := typed_int Tryz.underlying3 f3
   obtain rfl : c3 = _ := by simpa using e3
   have f4 := hf _ (List.mem_iff_getElem?.2 ⟨4, rfl⟩)
   simp only [hS, List.drop_succ_cons, List.drop_zero, List.take_succ_cons, List.take_zero] at f4
   obtain ⟨a4, e4, w4⟩ := typed_string Tryz.underlying9 f4
   obtain rfl : c4 = _ := by simpa using e4
   exact ⟨⟨a0, a1, a2, a3, a4⟩, rfl, by simp only [HeadD.Ok]; simp only [and_assoc] at *; simp [*]⟩
end Go.Proofs.YtlgdghpnfclgpaaGreat

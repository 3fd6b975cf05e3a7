/-
  The flat structs of the program, as Lean structures, their cells, and how cells read as them. Written by program (gen_types.py). No condition.
  The laws' own functions at lists of texts: walks. Written by program (gen_nest.py). No condition.
  Names: plain, and walks of both sides. No condition.
-/
import Derived.Test.YtkcjhfidgnbdiaaGreatProg
import Derived.Test.YtkcjhfidgnbdiaaGreatMem
import Derived.Test.YtkcjhfidgnbdiaaGreatNest
import Derived.StillTailTactics
import Derived.Test.YtkcjhfidgnbdiaaGreatArgs
namespace Go.Proofs.YtkcjhfidgnbdiaaGreat
set_option linter.unusedSimpArgs false
open Go.RowKit
set_option linter.unusedVariables false

structure EntryD where
  topic : ByteArray
  index : Int
  time : Int
  key : ByteArray
  body : ByteArray
def EntryD.cells (d : EntryD) : List Value := [.string d.topic, .int .i64 d.index, .int .i64 d.time, .string d.key, .string d.body]
theorem EntryD.cells_length (d : EntryD) : d.cells.length = 5 := rfl
def EntryD.Ok (d : EntryD) : Prop := d.topic.size ≤ maxLen ∧ (Lit.int .i64 d.index).wf = true ∧ (Lit.int .i64 d.time).wf = true ∧ d.key.size ≤ maxLen ∧ d.body.size ≤ maxLen

structure ReceiptD where
  reader : ByteArray
  topic : ByteArray
  index : Int
def ReceiptD.cells (d : ReceiptD) : List Value := [.string d.reader, .string d.topic, .int .i64 d.index]
theorem ReceiptD.cells_length (d : ReceiptD) : d.cells.length = 3 := rfl
def ReceiptD.Ok (d : ReceiptD) : Prop := d.reader.size ≤ maxLen ∧ d.topic.size ≤ maxLen ∧ (Lit.int .i64 d.index).wf = true

structure WriteD where
  file : Int
  at_ : Int
  text : ByteArray
def WriteD.cells (d : WriteD) : List Value := [.int .i64 d.file, .int .i64 d.at_, .string d.text]
theorem WriteD.cells_length (d : WriteD) : d.cells.length = 3 := rfl
def WriteD.Ok (d : WriteD) : Prop := (Lit.int .i64 d.file).wf = true ∧ (Lit.int .i64 d.at_).wf = true ∧ d.text.size ≤ maxLen

structure HeadD where
  number : Int
  size : Int
  root : ByteArray
  taken : Int
  takenRoot : ByteArray
def HeadD.cells (d : HeadD) : List Value := [.int .i64 d.number, .int .i64 d.size, .string d.root, .int .i64 d.taken, .string d.takenRoot]
theorem HeadD.cells_length (d : HeadD) : d.cells.length = 5 := rfl
def HeadD.Ok (d : HeadD) : Prop := (Lit.int .i64 d.number).wf = true ∧ (Lit.int .i64 d.size).wf = true ∧ d.root.size ≤ maxLen ∧ (Lit.int .i64 d.taken).wf = true ∧ d.takenRoot.size ≤ maxLen

structure CursorD where
  topic : ByteArray
  next : Int
  last : Int
def CursorD.cells (d : CursorD) : List Value := [.string d.topic, .int .i64 d.next, .int .i64 d.last]
theorem CursorD.cells_length (d : CursorD) : d.cells.length = 3 := rfl
def CursorD.Ok (d : CursorD) : Prop := d.topic.size ≤ maxLen ∧ (Lit.int .i64 d.next).wf = true ∧ (Lit.int .i64 d.last).wf = true

structure EvidenceD where
  width : Int
  a : HeadD
  b : HeadD
def EvidenceD.cells (d : EvidenceD) : List Value := [.int .i64 d.width, .int .i64 d.a.number, .int .i64 d.a.size, .string d.a.root, .int .i64 d.a.taken, .string d.a.takenRoot, .int .i64 d.b.number, .int .i64 d.b.size, .string d.b.root, .int .i64 d.b.taken, .string d.b.takenRoot]
theorem EvidenceD.cells_length (d : EvidenceD) : d.cells.length = 11 := rfl
def EvidenceD.Ok (d : EvidenceD) : Prop := (Lit.int .i64 d.width).wf = true ∧ (Lit.int .i64 d.a.number).wf = true ∧ (Lit.int .i64 d.a.size).wf = true ∧ d.a.root.size ≤ maxLen ∧ (Lit.int .i64 d.a.taken).wf = true ∧ d.a.takenRoot.size ≤ maxLen ∧ (Lit.int .i64 d.b.number).wf = true ∧ (Lit.int .i64 d.b.size).wf = true ∧ d.b.root.size ≤ maxLen ∧ (Lit.int .i64 d.b.taken).wf = true ∧ d.b.takenRoot.size ≤ maxLen

structure PreD where
  tag : Int
  text : ByteArray
def PreD.cells (d : PreD) : List Value := [.int .i64 d.tag, .string d.text]
theorem PreD.cells_length (d : PreD) : d.cells.length = 2 := rfl
def PreD.Ok (d : PreD) : Prop := (Lit.int .i64 d.tag).wf = true ∧ d.text.size ≤ maxLen

structure ActD where
  kind : Int
  who : Int
  other : Int
  topic : ByteArray
  index : Int
  time : Int
  key : ByteArray
  body : ByteArray
  cut : Bool
  whole_ : Int
  part_ : Int
  again : Int
def ActD.cells (d : ActD) : List Value := [.int .i64 d.kind, .int .i64 d.who, .int .i64 d.other, .string d.topic, .int .i64 d.index, .int .i64 d.time, .string d.key, .string d.body, .bool d.cut, .int .i64 d.whole_, .int .i64 d.part_, .int .i64 d.again]
theorem ActD.cells_length (d : ActD) : d.cells.length = 12 := rfl
def ActD.Ok (d : ActD) : Prop := (Lit.int .i64 d.kind).wf = true ∧ (Lit.int .i64 d.who).wf = true ∧ (Lit.int .i64 d.other).wf = true ∧ d.topic.size ≤ maxLen ∧ (Lit.int .i64 d.index).wf = true ∧ (Lit.int .i64 d.time).wf = true ∧ d.key.size ≤ maxLen ∧ d.body.size ≤ maxLen ∧ (Lit.int .i64 d.whole_).wf = true ∧ (Lit.int .i64 d.part_).wf = true ∧ (Lit.int .i64 d.again).wf = true

structure MoveD where
  kind : Int
  who : Int
  other : Int
  topic : ByteArray
  index : Int
  text : ByteArray
def MoveD.cells (d : MoveD) : List Value := [.int .i64 d.kind, .int .i64 d.who, .int .i64 d.other, .string d.topic, .int .i64 d.index, .string d.text]
theorem MoveD.cells_length (d : MoveD) : d.cells.length = 6 := rfl
def MoveD.Ok (d : MoveD) : Prop := (Lit.int .i64 d.kind).wf = true ∧ (Lit.int .i64 d.who).wf = true ∧ (Lit.int .i64 d.other).wf = true ∧ d.topic.size ≤ maxLen ∧ (Lit.int .i64 d.index).wf = true ∧ d.text.size ≤ maxLen

structure GivenD where
  who : Int
  leaf : Int
  entry : EntryD
def GivenD.cells (d : GivenD) : List Value := [.int .i64 d.who, .int .i64 d.leaf, .string d.entry.topic, .int .i64 d.entry.index, .int .i64 d.entry.time, .string d.entry.key, .string d.entry.body]
theorem GivenD.cells_length (d : GivenD) : d.cells.length = 7 := rfl
def GivenD.Ok (d : GivenD) : Prop := (Lit.int .i64 d.who).wf = true ∧ (Lit.int .i64 d.leaf).wf = true ∧ d.entry.topic.size ≤ maxLen ∧ (Lit.int .i64 d.entry.index).wf = true ∧ (Lit.int .i64 d.entry.time).wf = true ∧ d.entry.key.size ≤ maxLen ∧ d.entry.body.size ≤ maxLen

structure MeetingD where
  a : Int
  b : Int
  given : Int
  scans : Bool
def MeetingD.cells (d : MeetingD) : List Value := [.int .i64 d.a, .int .i64 d.b, .int .i64 d.given, .bool d.scans]
theorem MeetingD.cells_length (d : MeetingD) : d.cells.length = 4 := rfl
def MeetingD.Ok (d : MeetingD) : Prop := (Lit.int .i64 d.a).wf = true ∧ (Lit.int .i64 d.b).wf = true ∧ (Lit.int .i64 d.given).wf = true

structure EventD where
  kind : Int
  who : Int
  leaf : Int
  code : Int
def EventD.cells (d : EventD) : List Value := [.int .i64 d.kind, .int .i64 d.who, .int .i64 d.leaf, .int .i64 d.code]
theorem EventD.cells_length (d : EventD) : d.cells.length = 4 := rfl
def EventD.Ok (d : EventD) : Prop := (Lit.int .i64 d.kind).wf = true ∧ (Lit.int .i64 d.who).wf = true ∧ (Lit.int .i64 d.leaf).wf = true ∧ (Lit.int .i64 d.code).wf = true

set_option maxRecDepth 100000 in
theorem EntryD.typed {w : World} {n : Nat} {cs : List Value} (h : Typed Tryz.prog w n 285 cs) : ∃ d : EntryD, cs = d.cells ∧ d.Ok := by
  obtain ⟨hl, m, hf⟩ := typed_struct Tryz.underlying285 h
  have hC : Tryz.prog.cellsOf 285 = 5 := by kernel_rfl
  have hI : Tryz.prog.cellsOf 3 = 1 := by kernel_rfl
  have hS : Tryz.prog.cellsOf 9 = 1 := by kernel_rfl
  rw [hC] at hl
  match cs, hl with
  | [c0, c1, c2, c3, c4], _ =>
    have f0 := hf _ (List.mem_iff_getElem?.2 ⟨0, rfl⟩)
    simp only [hS, List.drop_zero, List.take_succ_cons, List.take_zero] at f0
    obtain ⟨a0, e0, w0⟩ := typed_string Tryz.underlying9 f0
    obtain rfl : c0 = _ := by simpa using e0
    have f1 := hf _ (List.mem_iff_getElem?.2 ⟨1, rfl⟩)
    simp only [hI, List.drop_succ_cons, List.drop_zero, List.take_succ_cons, List.take_zero] at f1
    obtain ⟨a1, e1, w1⟩ := typed_int Tryz.underlying3 f1
    obtain rfl : c1 = _ := by simpa using e1
    have f2 := hf _ (List.mem_iff_getElem?.2 ⟨2, rfl⟩)
    simp only [hI, List.drop_succ_cons, List.drop_zero, List.take_succ_cons, List.take_zero] at f2
    obtain ⟨a2, e2, w2⟩ := typed_int Tryz.underlying3 f2
    obtain rfl : c2 = _ := by simpa using e2
    have f3 := hf _ (List.mem_iff_getElem?.2 ⟨3, rfl⟩)
    simp only [hS, List.drop_succ_cons, List.drop_zero, List.take_succ_cons, List.take_zero] at f3
    obtain ⟨a3, e3, w3⟩ := typed_string Tryz.underlying9 f3
    obtain rfl : c3 = _ := by simpa using e3
    have f4 := hf _ (List.mem_iff_getElem?.2 ⟨4, rfl⟩)
    simp only [hS, List.drop_succ_cons, List.drop_zero, List.take_succ_cons, List.take_zero] at f4
    obtain ⟨a4, e4, w4⟩ := typed_string Tryz.underlying9 f4
    obtain rfl : c4 = _ := by simpa using e4
    exact ⟨⟨a0, a1, a2, a3, a4⟩, rfl, by simp only [EntryD.Ok]; simp only [and_assoc] at *; simp [*]⟩
set_option maxRecDepth 100000 in
theorem ReceiptD.typed {w : World} {n : Nat} {cs : List Value} (h : Typed Tryz.prog w n 94 cs) : ∃ d : ReceiptD, cs = d.cells ∧ d.Ok := by
  obtain ⟨hl, m, hf⟩ := typed_struct Tryz.underlying94 h
  have hC : Tryz.prog.cellsOf 94 = 3 := by kernel_rfl
  have hI : Tryz.prog.cellsOf 3 = 1 := by kernel_rfl
  have hS : Tryz.prog.cellsOf 9 = 1 := by kernel_rfl
  rw [hC] at hl
  match cs, hl with
  | [c0, c1, c2], _ =>
    have f0 := hf _ (List.mem_iff_getElem?.2 ⟨0, rfl⟩)
    simp only [hS, List.drop_zero, List.take_succ_cons, List.take_zero] at f0
    obtain ⟨a0, e0, w0⟩ := typed_string Tryz.underlying9 f0
    obtain rfl : c0 = _ := by simpa using e0
    have f1 := hf _ (List.mem_iff_getElem?.2 ⟨1, rfl⟩)
    simp only [hS, List.drop_succ_cons, List.drop_zero, List.take_succ_cons, List.take_zero] at f1
    obtain ⟨a1, e1, w1⟩ := typed_string Tryz.underlying9 f1
    obtain rfl : c1 = _ := by simpa using e1
    have f2 := hf _ (List.mem_iff_getElem?.2 ⟨2, rfl⟩)
    simp only [hI, List.drop_succ_cons, List.drop_zero, List.take_succ_cons, List.take_zero] at f2
    obtain ⟨a2, e2, w2⟩ := typed_int Tryz.underlying3 f2
    obtain rfl : c2 = _ := by simpa using e2
    exact ⟨⟨a0, a1, a2⟩, rfl, by simp only [ReceiptD.Ok]; simp only [and_assoc] at *; simp [*]⟩
set_option maxRecDepth 100000 in
theorem HeadD.typed {w : World} {n : Nat} {cs : List Value} (h : Typed Tryz.prog w n 59 cs) : ∃ d : HeadD, cs = d.cells ∧ d.Ok := by
  obtain ⟨hl, m, hf⟩ := typed_struct Tryz.underlying59 h
  have hC : Tryz.prog.cellsOf 59 = 5 := by kernel_rfl
  have hI : Tryz.prog.cellsOf 3 = 1 := by kernel_rfl
  have hS : Tryz.prog.cellsOf 9 = 1 := by kernel_rfl
  rw [hC] at hl
  match cs, hl with
  | [c0, c1, c2, c3, c4], _ =>
    have f0 := hf _ (List.mem_iff_getElem?.2 ⟨0, rfl⟩)
    simp only [hI, List.drop_zero, List.take_succ_cons, List.take_zero] at f0
    obtain ⟨a0, e0, w0⟩ := typed_int Tryz.underlying3 f0
    obtain rfl : c0 = _ := by simpa using e0
    have f1 := hf _ (List.mem_iff_getElem?.2 ⟨1, rfl⟩)
    simp only [hI, List.drop_succ_cons, List.drop_zero, List.take_succ_cons, List.take_zero] at f1
    obtain ⟨a1, e1, w1⟩ := typed_int Tryz.underlying3 f1
    obtain rfl : c1 = _ := by simpa using e1
    have f2 := hf _ (List.mem_iff_getElem?.2 ⟨2, rfl⟩)
    simp only [hS, List.drop_succ_cons, List.drop_zero, List.take_succ_cons, List.take_zero] at f2
    obtain ⟨a2, e2, w2⟩ := typed_string Tryz.underlying9 f2
    obtain rfl : c2 = _ := by simpa using e2
    have f3 := hf _ (List.mem_iff_getElem?.2 ⟨3, rfl⟩)
    simp only [hI, List.drop_succ_cons, List.drop_zero, List.take_succ_cons, List.take_zero] at f3
    obtain ⟨a3, e3, w3⟩ := typed_int Tryz.underlying3 f3
    obtain rfl : c3 = _ := by simpa using e3
    have f4 := hf _ (List.mem_iff_getElem?.2 ⟨4, rfl⟩)
    simp only [hS, List.drop_succ_cons, List.drop_zero, List.take_succ_cons, List.take_zero] at f4
    obtain ⟨a4, e4, w4⟩ := typed_string Tryz.underlying9 f4
    obtain rfl : c4 = _ := by simpa using e4
    exact ⟨⟨a0, a1, a2, a3, a4⟩, rfl, by simp only [HeadD.Ok]; simp only [and_assoc] at *; simp [*]⟩
end Go.Proofs.YtkcjhfidgnbdiaaGreat
namespace Go.Proofs.YtkcjhfidgnbdiaaGreat
set_option linter.unusedSimpArgs false
open Go.RowKit
set_option linter.unusedVariables false

def slens (s : ByteArray) : List Nat := [s.size]
theorem string_typed {w : World} {n : Nat} {cs : List Value} (h : Typed Tryz.prog w n 9 cs) : ∃ s, cs = sone s ∧ s.size ≤ maxLen := typed_string Tryz.underlying9 h
set_option maxHeartbeats 1000000 in
set_option maxRecDepth 100000 in
theorem szStringS_any (A : Option Addr) (c : Nat) (l : List ByteArray) (left : Int) (w : World) (hr : SlF AnyB sone 1 w A l c) (hok : ∀ s ∈ l, s.size ≤ maxLen) (h0 : 0 ≤ left) (h1 : left ≤ 1048576) :
    Calls Tryz.prog 34 #[.slice A l.length c, .int .i64 left] w fun e w' => e = .returned (.int .i64 (szL (l.length :: l.flatMap slens) left)) ∧ Ext w w' := by
  have hl := hr.len
  unfold maxLen at hl
  have Hok := Lib.hid hok; clear hok
  by_cases c0 : left - (l.length : Int) < 0
  · go_enter Tryz.func34, Tryz.ntmps34
    go_wp2
    go_ret
    exact ⟨ret_int (by simp only [szL]; rw [if_pos c0]), by go_grown⟩
  · obtain ⟨fin, hfin⟩ : ∃ fin, fin = szL (l.length :: l.flatMap slens) left := ⟨_, rfl⟩
    have Hi : SzInv slens l fin 0 (left - l.length) := by
      refine ⟨by omega, by omega, ?_⟩
      rw [hfin]; simp only [szL, List.drop_zero]; rw [if_neg c0]
    rw [← hfin]; clear hfin
    go_enter Tryz.func34, Tryz.ntmps34
    go_wp2
    go_loopw [1, 5] (fun r i wr => ∃ (k : Nat) (q : Int), k ≤ l.length ∧ i = .int .i64 k ∧ r = .int .i64 q ∧ 0 ≤ q ∧ q ≤ 1048576 ∧ SzInv slens l fin k q ∧ Ext w wr) (fun _ i _ => l.length - (intOf i).toNat)
    case atStart => exact ⟨0, _, Nat.zero_le _, rfl, rfl, by omega, by omega, Hi, Below.refl _ _⟩
    case round =>
      obtain ⟨k, q, hk, rfl, rfl, q0, q1, hi, he⟩ := hrel
      by_cases hlt : k < l.length
      · obtain ⟨s1, s2⟩ := hi.step hlt
        obtain ⟨b, off, rfl, hb, hc⟩ := Reads.at_ (hr.ext he).reads (k := k) hlt
        obtain ⟨d, hd⟩ : ∃ d, d = l[k] := ⟨_, rfl⟩
        have hdl : l[k]? = some d := by rw [hd]; exact List.getElem?_eq_getElem hlt
        have hdo := Hok.out d (List.mem_of_getElem? hdl)
        unfold maxLen at hdo
        have c0 := hc 0 _ (flat_at _ 1 sone_length l k 0 d hdl (by omega))
        rw [Nat.add_zero, Nat.mul_one] at c0
        rw [← hd] at s1 s2
        clear hc hd hdl
        have e1 : szL (slens d) q = if q - (d.size : Int) < 0 then -1 else q - d.size := rfl
        rw [e1] at s1 s2
        clear e1
        by_cases hn : q - (d.size : Int) < 0
        · rw [if_pos hn] at s1
          have E1 := Lib.hid (s1 (by decide))
          clear s1 s2 Hi hi
          go_wp2_with fail
          go_ret
          exact ⟨ret_int E1.out.symm, he⟩
        · rw [if_neg hn] at s2
          have H2 := Lib.hid (s2 (by omega))
          clear s1 s2 Hi hi
          go_wp2_with fail
          go_roundw
          case rel => exact ⟨k + 1, _, by omega, by go_num, rfl, by omega, by omega, H2.out, he⟩
          case measure => simp [intOf]; omega
      · have E1 := Lib.hid (hi.done (by omega))
        clear Hi hi
        go_wp2_with fail
        go_ret
        exact ⟨ret_int E1.out, he⟩
set_option maxHeartbeats 1000000 in
set_option maxRecDepth 100000 in
theorem toStringS_any (A : Option Addr) (c : Nat) (l : List ByteArray) (w : World) (hr : SlF AnyB sone 1 w A l c) (hl : l.length ≤ 1048576) :
    Calls Tryz.prog 36 #[.slice A l.length c] w fun e w' => ∃ g, e = .returned (.slice (some ⟨g, 0, none⟩) l.length l.length) ∧ w.heap.size ≤ g ∧ Blk w' g 9 (l.flatMap sone).toArray ∧ Ext w w' := by
  obtain ⟨Z, hZ, hmk⟩ := make_any (P := Tryz.prog) (t := 29) (e := 9) (size := 1) (bytes := 16) l.length Tryz.underlying29 (by kernel_rfl) (by omega) hl
  have HZ := Lib.hid hZ; clear hZ
  have Hs := Lib.hid (Filled.start (f := sone) (size := 1) (t := 9) (l := l) w Z)
  have He := Lib.hid (Ext.new (Below.refl w.heap.size w) (.cells Z 9))
  go_enter Tryz.func36, Tryz.ntmps36
  go_wp2
  obtain ⟨g, hg⟩ : ∃ g, g = w.heap.size := ⟨_, rfl⟩
  rw [← hg]
  rw [← hg] at Hs
  have hg0 : w.heap.size ≤ g := by omega
  clear hg
  go_loopw [4] (fun i wr => ∃ (k : Nat), k ≤ l.length ∧ i = .int .i64 k ∧ Filled sone 1 9 l g Z k wr ∧ Ext w wr) (fun i _ => l.length - (intOf i).toNat)
  case atStart => exact ⟨0, Nat.zero_le _, rfl, Hs.out, He.out⟩
  case round =>
    obtain ⟨k, hk, rfl, hi, he⟩ := hrel
    by_cases hlt : k < l.length
    · obtain ⟨b, off, rfl, hb, hc⟩ := Reads.at_ (hr.ext he).reads (k := k) hlt
      obtain ⟨d, hd⟩ : ∃ d, d = l[k] := ⟨_, rfl⟩
      have hdl : l[k]? = some d := by rw [hd]; exact List.getElem?_eq_getElem hlt
      have c0 := hc 0 _ (flat_at _ 1 sone_length l k 0 d hdl (by omega))
      rw [Nat.add_zero, Nat.mul_one] at c0
      have ht := hi.there sone_length HZ.out hlt
      have Hn := Lib.hid (hi.step sone_length HZ.out hlt)
      rw [← hd, Nat.mul_one] at Hn
      clear hc hd hdl
      have hz := Blk.frozen hi
      obtain ⟨v0, z0⟩ := Option.isSome_iff_exists.1 (ht 0 (by omega)).1
      rw [Nat.add_zero, Nat.mul_one] at z0
      clear ht
      have He2 := Lib.hid (ext_setCells (g := g) (W := w) hg0 (sone d) k wr he)
      go_wp2_with fail
      go_roundw
      case rel => exact ⟨k + 1, by omega, by go_num, Hn.out, He2.out⟩
      case measure => simp [intOf]; omega
    · have Hf := Lib.hid (hi.done HZ.out (by omega))
      clear hi
      go_wp2_with fail
      go_ret
      exact ⟨g, rfl, hg0, Hf.out, he⟩
set_option maxHeartbeats 1000000 in
set_option maxRecDepth 100000 in
theorem eqStringS_slf (A A' : Option Addr) (c c' : Nat) (l : List ByteArray) (w : World) (hr : SlF AnyB sone 1 w A l c) (hr' : SlF AnyB sone 1 w A' l c') (hl : l.length ≤ 1048576) :
    Calls Tryz.prog 29 #[.slice A l.length c, .slice A' l.length c'] w fun e w' => e = .returned (.bool true) ∧ Ext w w' := by
  go_enter Tryz.func29, Tryz.ntmps29
  go_wp2
  go_loopw [5] (fun i wr => ∃ (k : Nat), k ≤ l.length ∧ i = .int .i64 k ∧ Ext w wr) (fun i _ => l.length - (intOf i).toNat)
  case atStart => exact ⟨0, Nat.zero_le _, rfl, Below.refl _ _⟩
  case round =>
    obtain ⟨k, hk, rfl, he⟩ := hrel
    by_cases hlt : k < l.length
    · obtain ⟨b, off, rfl, hb, hc⟩ := Reads.at_ (hr.ext he).reads (k := k) hlt
      obtain ⟨b', off', rfl, hb', hc'⟩ := Reads.at_ (hr'.ext he).reads (k := k) hlt
      obtain ⟨d, hd⟩ : ∃ d, d = l[k] := ⟨_, rfl⟩
      have hdl : l[k]? = some d := by rw [hd]; exact List.getElem?_eq_getElem hlt
      have c0 := hc 0 _ (flat_at _ 1 sone_length l k 0 d hdl (by omega))
      have b0 := hc' 0 _ (flat_at _ 1 sone_length l k 0 d hdl (by omega))
      rw [Nat.add_zero, Nat.mul_one] at c0 b0
      clear hc hc' hd hdl
      have z0 : (0 : Int) ≤ (k : Int) := by omega
      have z1 : (k : Int) < (l.length : Int) := by omega
      go_wp2_with fail
      go_quiet (fail)
      go_wp2_with fail
      go_roundw
      case rel => exact ⟨k + 1, by omega, by go_num, ⟨he.os, he.tape, he.output, he.size, he.block⟩⟩
      case measure => simp [intOf]; omega
    · go_wp2_with fail
      go_ret
      exact ⟨rfl, he⟩
end Go.Proofs.YtkcjhfidgnbdiaaGreat
namespace Go.Proofs.YtkcjhfidgnbdiaaGreat
set_option linter.unusedSimpArgs false
open Go.RowKit
set_option linter.unusedVariables false

/-- Is none of the first k names the name x? -/
def freshTo (l : List ByteArray) (x : ByteArray) : Nat → Bool
  | 0 => true
  | k + 1 => freshTo l x k && !((l.getD k ⟨#[]⟩).toList == x.toList)
/-- Are the first i names right, and each unlike those ahead of it? -/
def namesTo (l : List ByteArray) : Nat → Bool
  | 0 => true
  | i + 1 => namesTo l i && (nameOk (l.getD i ⟨#[]⟩) && freshTo l (l.getD i ⟨#[]⟩) i)
def namesB (l : List ByteArray) : Bool := inR l.length 1 4 && namesTo l l.length
theorem namesTo_less {l : List ByteArray} {i : Nat} (h : namesTo l i = false) : ∀ n, i ≤ n → namesTo l n = false
  | 0, hn => by obtain rfl : i = 0 := by omega
                exact h
  | n + 1, hn => by
    by_cases e : i = n + 1
    · rw [← e]; exact h
    · rw [namesTo, namesTo_less h n (by omega), Bool.false_and]
theorem freshTo_less {l : List ByteArray} {x : ByteArray} {k : Nat} (h : freshTo l x k = false) : ∀ n, k ≤ n → freshTo l x n = false
  | 0, hn => by obtain rfl : k = 0 := by omega
                exact h
  | n + 1, hn => by
    by_cases e : k = n + 1
    · rw [← e]; exact h
    · rw [freshTo, freshTo_less h n (by omega), Bool.false_and]
theorem namesTo_bad {l : List ByteArray} {i : Nat} (hi : i < l.length) (h : nameOk l[i] = false ∨ freshTo l l[i] i = false) : namesTo l l.length = false := by
  refine namesTo_less (i := i + 1) ?_ _ hi
  have e : l.getD i ⟨#[]⟩ = l[i] := by simp [hi]
  rw [namesTo, e]
  rcases h with h | h <;> simp [h]
theorem namesTo_good {l : List ByteArray} {i : Nat} (hi : i < l.length) (h0 : namesTo l i = true) (h1 : nameOk l[i] = true) (h2 : freshTo l l[i] i = true) : namesTo l (i + 1) = true := by
  have e : l.getD i ⟨#[]⟩ = l[i] := by simp [hi]
  rw [namesTo, e, h0, h1, h2]; rfl
set_option maxHeartbeats 1000000 in
theorem index_any (A : Option Addr) (n c : Nat) (l : List ByteArray) (c' : Nat) (x : ByteArray) (w : World) (hr : SlF AnyB sone 1 w A l c') (hn : n ≤ l.length) (hc0 : n ≤ c) :
    Calls Tryz.prog 254 #[.slice A n c, .string x] w fun e w' => (∃ m : Int, e = .returned (.int .i64 m) ∧ decide (0 ≤ m) = !freshTo l x n) ∧ w = w' := by
  have hm := hr.len
  unfold maxLen at hm
  go_enter Tryz.func254, Tryz.ntmps254
  go_wp2
  go_loopw [8] (fun i wr => ∃ k : Nat, k ≤ n ∧ i = .int .i64 k ∧ freshTo l x k = true ∧ wr = w) (fun i _ => n - (intOf i).toNat)
  case atStart => exact ⟨0, Nat.zero_le _, rfl, rfl, rfl⟩
  case round =>
    obtain ⟨k, hk, rfl, hi, rfl⟩ := hrel
    by_cases hlt : k < n
    · obtain ⟨b, off, rfl, hb, hc⟩ := Reads.at_ hr.reads (k := k) (by omega)
      obtain ⟨d, hd⟩ : ∃ d, d = l[k]'(by omega) := ⟨_, rfl⟩
      have hdl : l[k]? = some d := by rw [hd]; exact List.getElem?_eq_getElem (by omega)
      have c0 := hc 0 _ (flat_at _ 1 sone_length l k 0 d hdl (by omega))
      rw [Nat.add_zero, Nat.mul_one] at c0
      have hg : l.getD k ⟨#[]⟩ = d := by simp [hdl]
      have Hs := Lib.hid (show freshTo l x (k + 1) = (freshTo l x k && !(d.toList == x.toList)) by rw [freshTo, hg])
      have Hi := Lib.hid hi
      have Hc : Hid ((d.toList == x.toList) = (x.toList == d.toList)) := Lib.hid (Bool.beq_comm ..)
      have kb : k + 1 ≤ 9223372036854775807 := by omega
      clear hc hd hdl hg hr hi hn
      cases q : (x.toList == d.toList)
      · have E := Lib.hid (show freshTo l x (k + 1) = true by rw [Hs.out, Hi.out, Hc.out, q]; rfl)
        clear Hs Hc
        go_wp2_with fail
        go_roundw
        case rel => exact ⟨k + 1, by omega, by go_num, E.out, trivial⟩
        case measure => simp [intOf]; omega
      · have E := Lib.hid (show freshTo l x n = false from freshTo_less (k := k + 1) (by rw [Hs.out, Hi.out, Hc.out, q]; rfl) n hlt)
        clear Hs Hc
        go_wp2_with fail
        go_ret
        exact ⟨⟨_, rfl, by rw [E.out]; simp⟩, rfl⟩
    · have E := Lib.hid (show freshTo l x n = true by rw [show n = k by omega]; exact hi)
      clear hi
      go_wp2_with fail
      go_ret
      exact ⟨⟨_, rfl, by rw [E.out]; simp⟩, rfl⟩
theorem contains_any (A : Option Addr) (n c : Nat) (l : List ByteArray) (c' : Nat) (x : ByteArray) (w : World) (hr : SlF AnyB sone 1 w A l c') (hn : n ≤ l.length) (hc0 : n ≤ c) :
    Calls Tryz.prog 178 #[.slice A n c, .string x] w fun e w' => e = .returned (.bool (!freshTo l x n)) ∧ w = w' := by
  go_enter Tryz.func178, Tryz.ntmps178
  go_wp2_with fail
  refine (index_any A n c l c' x w hr hn hc0).mono ?_
  rintro e w' ⟨⟨m, rfl, hm⟩, rfl⟩
  go_wp2_with fail
  go_ret
  exact ⟨by rw [← hm]; rfl, rfl⟩
end Go.Proofs.YtkcjhfidgnbdiaaGreat

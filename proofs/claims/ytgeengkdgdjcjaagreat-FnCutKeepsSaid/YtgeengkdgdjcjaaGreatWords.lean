/-
  Types; Texts; Words: No condition.
-/
import Derived.Test.YtgeengkdgdjcjaaGreatProg
import Derived.Test.YtgeengkdgdjcjaaGreatMem
import Derived.Test.YtgeengkdgdjcjaaGreatReader
import Derived.Laws.BitsAllLaws
namespace Go.Proofs.YtgeengkdgdjcjaaGreat
set_option linter.unusedSimpArgs false
open Go.RowKit
set_option linter.unusedVariables false
structure EntryD where
 topic : ByteArray
 index : Int
 time : Int
 key : ByteArray
 body : ByteArray
def EntryD.cells (d : EntryD) : List Value := [.string d.topic, .int .i64 d.index, .int .i64 d.time, .string d.key, .string d.body]
theorem EntryD.cells_length (d : EntryD) : d.cells.length = 5 := rfl
def EntryD.Ok (d : EntryD) : Prop := d.topic.size ≤ maxLen ∧ (Lit.int .i64 d.index).wf = true ∧ (Lit.int .i64 d.time).wf = true ∧ d.key.size ≤ maxLen ∧ d.body.size ≤ maxLen
structure ReceiptD where
 reader : ByteArray
 topic : ByteArray
 index : Int
def ReceiptD.cells (d : ReceiptD) : List Value := [.string d.reader, .string d.topic, .int .i64 d.index]
theorem ReceiptD.cells_length (d : ReceiptD) : d.cells.length = 3 := rfl
def ReceiptD.Ok (d : ReceiptD) : Prop := d.reader.size ≤ maxLen ∧ d.topic.size ≤ maxLen ∧ (Lit.int .i64 d.index).wf = true
structure WriteD where
 file : Int
 at_ : Int
 text : ByteArray
def WriteD.cells (d : WriteD) : List Value := [.int .i64 d.file, .int .i64 d.at_, .string d.text]
theorem WriteD.cells_length (d : WriteD) : d.cells.length = 3 := rfl
def WriteD.Ok (d : WriteD) : Prop := (Lit.int .i64 d.file).wf = true ∧ (Lit.int .i64 d.at_).wf = true ∧ d.text.size ≤ maxLen
structure HeadD where
 number : Int
 size : Int
 root : ByteArray
 taken : Int
 takenRoot : ByteArray
def HeadD.cells (d : HeadD) : List Value := [.int .i64 d.number, .int .i64 d.size, .string d.root, .int .i64 d.taken, .string d.takenRoot]
theorem HeadD.cells_length (d : HeadD) : d.cells.length = 5 := rfl
def HeadD.Ok (d : HeadD) : Prop := (Lit.int .i64 d.number).wf = true ∧ (Lit.int .i64 d.size).wf = true ∧ d.root.size ≤ maxLen ∧ (Lit.int .i64 d.taken).wf = true ∧ d.takenRoot.size ≤ maxLen
structure CursorD where
 topic : ByteArray
 next : Int
 last : Int
def CursorD.cells (d : CursorD) : List Value := [.string d.topic, .int .i64 d.next, .int .i64 d.last]
theorem CursorD.cells_length (d : CursorD) : d.cells.length = 3 := rfl
def CursorD.Ok (d : CursorD) : Prop := d.topic.size ≤ maxLen ∧ (Lit.int .i64 d.next).wf = true ∧ (Lit.int .i64 d.last).wf = true
structure EvidenceD where
 width : Int
 a : HeadD
 b : HeadD
def EvidenceD.cells (d : EvidenceD) : List Value := [.int .i64 d.width, .int .i64 d.a.number, .int .i64 d.a.size, .string d.a.root, .int .i64 d.a.taken, .string d.a.takenRoot, .int .i64 d.b.number, .int .i64 d.b.size, .string d.b.root, .int .i64 d.b.taken, .string d.b.takenRoot]
theorem EvidenceD.cells_length (d : EvidenceD) : d.cells.length = 11 := rfl
def EvidenceD.Ok (d : EvidenceD) : Prop := (Lit.int .i64 d.width).wf = true ∧ (Lit.int .i64 d.a.number).wf = true ∧ (Lit.int .i64 d.a.size).wf = true ∧ d.a.root.size ≤ maxLen ∧ (Lit.int .i64 d.a.taken).wf = true ∧ d.a.takenRoot.size ≤ maxLen ∧ (Lit.int .i64 d.b.number).wf = true ∧ (Lit.int .i64 d.b.size).wf = true ∧ d.b.root.size ≤ maxLen ∧ (Lit.int .i64 d.b.taken).wf = true ∧ d.b.takenRoot.size ≤ maxLen
structure PreD where
 tag : Int
 text : ByteArray
def PreD.cells (d : PreD) : List Value := [.int .i64 d.tag, .string d.text]
theorem PreD.cells_length (d : PreD) : d.cells.length = 2 := rfl
def PreD.Ok (d : PreD) : Prop := (Lit.int .i64 d.tag).wf = true ∧ d.text.size ≤ maxLen
structure ActD where
 kind : Int
 who : Int
 other : Int
 topic : ByteArray
 index : Int
 time : Int
 key : ByteArray
 body : ByteArray
 cut : Bool
 whole_ : Int
 part_ : Int
 again : Int
def ActD.cells (d : ActD) : List Value := [.int .i64 d.kind, .int .i64 d.who, .int .i64 d.other, .string d.topic, .int .i64 d.index, .int .i64 d.time, .string d.key, .string d.body, .bool d.cut, .int .i64 d.whole_, .int .i64 d.part_, .int .i64 d.again]
theorem ActD.cells_length (d : ActD) : d.cells.length = 12 := rfl
def ActD.Ok (d : ActD) : Prop := (Lit.int .i64 d.kind).wf = true ∧ (Lit.int .i64 d.who).wf = true ∧ (Lit.int .i64 d.other).wf = true ∧ d.topic.size ≤ maxLen ∧ (Lit.int .i64 d.index).wf = true ∧ (Lit.int .i64 d.time).wf = true ∧ d.key.size ≤ maxLen ∧ d.body.size ≤ maxLen ∧ (Lit.int .i64 d.whole_).wf = true ∧ (Lit.int .i64 d.part_).wf = true ∧ (Lit.int .i64 d.again).wf = true
structure MoveD where
 kind : Int
 who : Int
 other : Int
 topic : ByteArray
 index : Int
 text : ByteArray
def MoveD.cells (d : MoveD) : List Value := [.int .i64 d.kind, .int .i64 d.who, .int .i64 d.other, .string d.topic, .int .i64 d.index, .string d.text]
theorem MoveD.cells_length (d : MoveD) : d.cells.length = 6 := rfl
def MoveD.Ok (d : MoveD) : Prop := (Lit.int .i64 d.kind).wf = true ∧ (Lit.int .i64 d.who).wf = true ∧ (Lit.int .i64 d.other).wf = true ∧ d.topic.size ≤ maxLen ∧ (Lit.int .i64 d.index).wf = true ∧ d.text.size ≤ maxLen
structure GivenD where
 who : Int
 leaf : Int
 entry : EntryD
def GivenD.cells (d : GivenD) : List Value := [.int .i64 d.who, .int .i64 d.leaf, .string d.entry.topic, .int .i64 d.entry.index, .int .i64 d.entry.time, .string d.entry.key, .string d.entry.body]
theorem GivenD.cells_length (d : GivenD) : d.cells.length = 7 := rfl
def GivenD.Ok (d : GivenD) : Prop := (Lit.int .i64 d.who).wf = true ∧ (Lit.int .i64 d.leaf).wf = true ∧ d.entry.topic.size ≤ maxLen ∧ (Lit.int .i64 d.entry.index).wf = true ∧ (Lit.int .i64 d.entry.time).wf = true ∧ d.entry.key.size ≤ maxLen ∧ d.entry.body.size ≤ maxLen
structure MeetingD where
 a : Int
 b : Int
 given : Int
 scans : Bool
def MeetingD.cells (d : MeetingD) : List Value := [.int .i64 d.a, .int .i64 d.b, .int .i64 d.given, .bool d.scans]
theorem MeetingD.cells_length (d : MeetingD) : d.cells.length = 4 := rfl
def MeetingD.Ok (d : MeetingD) : Prop := (Lit.int .i64 d.a).wf = true ∧ (Lit.int .i64 d.b).wf = true ∧ (Lit.int .i64 d.given).wf = true
structure EventD where
 kind : Int
 who : Int
 leaf : Int
 code : Int
def EventD.cells (d : EventD) : List Value := [.int .i64 d.kind, .int .i64 d.who, .int .i64 d.leaf, .int .i64 d.code]
theorem EventD.cells_length (d : EventD) : d.cells.length = 4 := rfl
def EventD.Ok (d : EventD) : Prop := (Lit.int .i64 d.kind).wf = true ∧ (Lit.int .i64 d.who).wf = true ∧ (Lit.int .i64 d.leaf).wf = true ∧ (Lit.int .i64 d.code).wf = true
set_option maxHeartbeats 1000000
set_option maxRecDepth 100000
def ofInts (ns : List Int) : ByteArray := ⟨(ns.map fun x => UInt8.ofNat x.toNat).toArray⟩
theorem conv_bytes (ns : List Int) (h : ∀ x ∈ ns, 0 ≤ x ∧ x < 256) (w : World) :
 (convert 22 9 (.slice (some ⟨w.heap.size, 0, none⟩) ns.length ns.length)).run Tryz.prog (w.alloc (.cells (ns.map (Value.int .u8)).toArray 5)) =
  .ok (.string (ofInts ns)) (w.alloc (.cells (ns.map (Value.int .u8)).toArray 5)) := by
 have hb := Blk.new w 5 (ns.map (Value.int .u8)).toArray
 have h0 := run_convert_bytes_back (P := Tryz.prog) (w.alloc (.cells (ns.map (Value.int .u8)).toArray 5)) 22 9 5 ⟨w.heap.size, 0, none⟩ ns.length (ns.map fun x => UInt8.ofNat x.toNat)
  Tryz.underlying22 Tryz.underlying5 Tryz.underlying9 (fun j hj => by
   rw [add_mk, Nat.zero_add, hb.cell]
   have hj' : j < ns.length := by simpa using hj
   obtain ⟨h1, h2⟩ := h ns[j] (List.getElem_mem hj')
   simp only [List.getElem?_toArray, List.getElem?_map, List.getElem?_eq_getElem hj', Option.map_some, List.getElem_map, Option.some.injEq, Value.int.injEq, true_and]
   rw [UInt8.toNat_ofNat_of_lt' (by show ns[j].toNat < 256; omega)]
   omega)
 simp only [List.length_map] at h0
 exact h0
def octB (n : Int) : ByteArray := ofInts [n % 256]
theorem octet_any (n : Int) (w : World) : Calls Tryz.prog 224 #[.int .i64 n] w fun e w' => e = .returned (.string (octB n)) ∧ Ext w w' := by
 have hconv := conv_bytes [n % 256] (by intro x hx; simp only [List.mem_singleton] at hx; subst hx; omega) w
 simp only [List.length_cons, List.length_nil, Nat.zero_add, List.map_cons, List.map_nil] at hconv
 go_enter Tryz.func224, Tryz.ntmps224
 go_wp2_with fail
 go_ret
 exact ⟨rfl, by go_grown⟩
theorem octB_size (n : Int) : (octB n).size = 1 := rfl
theorem pair_any (n : Int) (w : World) (h0 : 0 ≤ n) (h1 : n ≤ 65535) : Calls Tryz.prog 154 #[.int .i64 n] w fun e w' => e = .returned (.string (octB (n / 256) ++ octB n)) ∧ Ext w w' := by
 go_enter Tryz.func154, Tryz.ntmps154
 go_wp2_with fail
 refine (octet_any _ _).mono ?_
 rintro e w1 ⟨rfl, he⟩
 go_wp2_with fail
 refine (octet_any _ _).mono ?_
 rintro e w2 ⟨rfl, h1⟩
 replace he := he.next h1
 go_wp2_with fail
 go_ret
 exact ⟨rfl, he⟩
theorem shortS_any (s : ByteArray) (w : World) (hs : s.size ≤ 1099511627776) : Calls Tryz.prog 153 #[.string s] w fun e w' => e = .returned (.string (octB s.size ++ s)) ∧ Ext w w' := by
 have hz : (octB (s.size : Int)).size ≤ 1 := by rw [octB_size]; exact Nat.le_refl _
 go_enter Tryz.func153, Tryz.ntmps153
 go_wp2_with fail
 refine (octet_any _ _).mono ?_
 rintro e w1 ⟨rfl, he⟩
 go_wp2_with fail
 go_ret
 exact ⟨rfl, he⟩
def lowB (n : Nat) : Nat → ByteArray
 | 0 => ⟨#[]⟩
 | i + 1 => octB ((n / 256 ^ i : Nat) : Int) ++ lowB n i
theorem lowB_size (n : Nat) : ∀ i, (lowB n i).size = i
 | 0 => rfl
 | i + 1 => by rw [lowB, ByteArray.size_append, octB_size, lowB_size n i, Nat.add_comm]
theorem l03Number_any (n b : Nat) (w : World) (hn : n ≤ 1099511627776) (hb : b ≤ 16) : Calls Tryz.prog 99 #[.int .i64 (n : Int), .int .i64 (b : Int)] w fun e w' => e = .returned (.string (lowB n b)) ∧ Ext w w' := by
 have Hs := hU (lowB_size n)
 go_enter Tryz.func99, Tryz.ntmps99
 go_wp2_with fail
 go_loopw [0, 5, 6] (fun sn st i wr => ∃ (k q : Nat) (t : ByteArray), k ≤ b ∧ i = .int .i64 k ∧ sn = .int .i64 q ∧ st = .string t ∧ q ≤ 1099511627776 ∧ t.size ≤ 16 ∧ Hid (q = n / 256 ^ k) ∧ Hid (t = lowB n k) ∧ Ext w wr) (fun _ _ i _ => b - (intOf i).toNat)
 case atStart => exact ⟨0, n, ⟨#[]⟩, Nat.zero_le _, rfl, rfl, rfl, hn, by decide, hU (by simp), hU rfl, Below.refl _ _⟩
 case round =>
  obtain ⟨k, q, t, hk, rfl, rfl, rfl, hq, ht, eq, et, he⟩ := hrel
  by_cases hlt : k < b
  · have hconv := conv_bytes [(q : Int) % 256] (by intro x hx; simp only [List.mem_singleton] at hx; subst hx; omega) wr
    simp only [List.length_cons, List.length_nil, Nat.zero_add, List.map_cons, List.map_nil] at hconv
    have ho : ofInts [(q : Int) % 256] = octB q := rfl
    rw [ho] at hconv
    clear ho
    have hz : (octB (q : Int)).size ≤ 1 := by rw [octB_size]; exact Nat.le_refl _
    have E1 := hU (show q / 256 = n / 256 ^ (k + 1) by rw [eq.out, Nat.div_div_eq_div_mul, ← Nat.pow_succ])
    have E2 := hU (show octB (q : Int) ++ t = lowB n (k + 1) by rw [et.out, eq.out]; rfl)
    have E3 : (octB (q : Int) ++ t).size ≤ 16 := by rw [E2.out, Hs.out]; omega
    go_wp2_with fail
    go_roundw
    case rel => exact ⟨k + 1, q / 256, _, by omega, by go_num, by go_num, rfl, by omega, E3, E1, E2, he.new _⟩
    case measure => simp [intOf]; omega
  · have E : Hid (t = lowB n b) := by
     obtain rfl : k = b := by omega
     exact et
    go_wp2_with fail
    go_ret
    exact ⟨ret_str E.out, he⟩
theorem append_nil (a : ByteArray) : a ++ ⟨#[]⟩ = a := by
 apply ByteArray.ext
 rw [ByteArray.data_append]
 exact Array.append_empty
theorem lowB_one (n : Nat) : lowB n 1 = octB n := by
 show octB ((n / 256 ^ 0 : Nat) : Int) ++ ⟨#[]⟩ = _
 rw [append_nil]; simp
theorem lowB_two (n : Nat) : lowB n 2 = octB ((n : Int) / 256) ++ octB n := by
 show octB ((n / 256 ^ 1 : Nat) : Int) ++ lowB n 1 = _
 rw [lowB_one]; simp
theorem l03NumberI_any (n : Int) (b : Nat) (w : World) (h0 : 0 ≤ n) (hn : n ≤ 1099511627776) (hb : b ≤ 16) : Calls Tryz.prog 99 #[.int .i64 n, .int .i64 (b : Int)] w fun e w' => e = .returned (.string (lowB n.toNat b)) ∧ Ext w w' := by
 obtain ⟨m, rfl⟩ := Int.eq_ofNat_of_zero_le h0
 rw [Int.toNat_natCast]
 exact l03Number_any m b w (by omega) hb
theorem l03Short_any (s : ByteArray) (w : World) (hs : s.size ≤ 1099511627776) : Calls Tryz.prog 98 #[.string s] w fun e w' => e = .returned (.string (lowB s.size 1 ++ s)) ∧ Ext w w' := by
 have hz : (lowB s.size 1).size ≤ 1 := by rw [lowB_size]; exact Nat.le_refl _
 go_enter Tryz.func98, Tryz.ntmps98
 go_wp2_with fail
 refine (l03Number_any s.size 1 _ hs (by decide)).mono ?_
 rintro e w1 ⟨rfl, he⟩
 go_wp2_with fail
 go_ret
 exact ⟨rfl, he⟩
def hconst (k : Int) : Int := (k + 1) * 2654435761 % 4294967296
theorem Constant_any (k : Int) (w : World) (h0 : 0 ≤ k) (h1 : k ≤ 1000) : Calls Tryz.prog 267 #[.int .i64 k] w fun e w' => e = .returned (.int .u32 (hconst k)) ∧ w = w' := by
 go_enter Tryz.func267, Tryz.ntmps267
 go_wp2_with fail
 go_ret
 exact ⟨rfl, rfl⟩
theorem specConstant_any (k : Int) (w : World) (h0 : 0 ≤ k) (h1 : k ≤ 1000) : Calls Tryz.prog 274 #[.int .i64 k] w fun e w' => e = .returned (.int .u32 (hconst k)) ∧ w = w' := by
 go_enter Tryz.func274, Tryz.ntmps274
 go_wp2_with fail
 go_ret
 exact ⟨rfl, rfl⟩
def byt (T : ByteArray) (i : Nat) : Int := if h : i < T.size then (T[i].toNat : Int) else 0
theorem byt_of {T : ByteArray} {i : Nat} (h : i < T.size) : byt T i = (T[i].toNat : Int) := by simp [byt, h]
theorem byt_rng (T : ByteArray) (i : Nat) : 0 ≤ byt T i ∧ byt T i < 256 := by
 unfold byt
 split
 · rename_i h
   have := T[i].toNat_lt
   omega
 · omega
def wordI (T : ByteArray) (a : Nat) : Int := ((byt T a * 256 + byt T (a + 1)) * 256 + byt T (a + 2)) * 256 + byt T (a + 3)
theorem wordI_rng (T : ByteArray) (a : Nat) : 0 ≤ wordI T a ∧ wordI T a < 4294967296 := by
 have h0 := byt_rng T a
 have h1 := byt_rng T (a + 1)
 have h2 := byt_rng T (a + 2)
 have h3 := byt_rng T (a + 3)
 unfold wordI
 omega
theorem or_join (x y m : Nat) (i : Nat) (hm : m = 2 ^ i) (hx : x % m = 0) (hy : y < m) (hs : x < 4294967296) (hy2 : y < 4294967296) : bits .or .u32 (x : Int) (y : Int) = ((x + y : Nat) : Int) := by
 rw [u32_or_nat _ _ hs hy2, nat_join i x y (by rw [← hm]; exact hx) (by rw [← hm]; exact hy)]
theorem or_four (a b c d : Nat) (ha : a < 256) (hb : b < 256) (hc : c < 256) (hd : d < 256) :
 bits .or .u32 (bits .or .u32 (bits .or .u32 ((a : Int) % 4294967296 * 16777216 % 4294967296) ((b : Int) % 4294967296 * 65536 % 4294967296)) ((c : Int) % 4294967296 * 256 % 4294967296)) ((d : Int) % 4294967296) = (((a : Int) * 256 + b) * 256 + c) * 256 + d := by
 have e0 : (a : Int) % 4294967296 * 16777216 % 4294967296 = ((a * 16777216 : Nat) : Int) := by omega
 have e1 : (b : Int) % 4294967296 * 65536 % 4294967296 = ((b * 65536 : Nat) : Int) := by omega
 have e2 : (c : Int) % 4294967296 * 256 % 4294967296 = ((c * 256 : Nat) : Int) := by omega
 have e3 : (d : Int) % 4294967296 = (d : Int) := by omega
 rw [e0, e1, e2, e3, or_join _ _ 16777216 24 (by decide) (by omega) (by omega) (by omega) (by omega), or_join _ _ 65536 16 (by decide) (by omega) (by omega) (by omega) (by omega),
  or_join _ _ 256 8 (by decide) (by omega) (by omega) (by omega) (by omega)]
 omega
theorem WordAt_any (T : ByteArray) (a : Nat) (w : World) (h : a + 4 ≤ T.size) (hT : T.size ≤ 1099511627776) : Calls Tryz.prog 232 #[.string T, .int .i64 (a : Int)] w fun e w' => e = .returned (.int .u32 (wordI T a)) ∧ ∃ m, w' = w.drewN m := by
 have a0 : (a : Int) < (T.size : Int) := by omega
 have a1 : (a : Int) + 1 < (T.size : Int) := by omega
 have a2 : (a : Int) + 2 < (T.size : Int) := by omega
 have a3 : (a : Int) + 3 < (T.size : Int) := by omega
 have b0 : a < T.size := by omega
 have b1 : a + 1 < T.size := by omega
 have b2 : a + 2 < T.size := by omega
 have b3 : a + 3 < T.size := by omega
 have E : Hid (wordI T a = bits .or .u32 (bits .or .u32 (bits .or .u32 ((T[a].toNat : Int) % 4294967296 * 16777216 % 4294967296) ((T[a + 1].toNat : Int) % 4294967296 * 65536 % 4294967296)) ((T[a + 2].toNat : Int) % 4294967296 * 256 % 4294967296)) ((T[a + 3].toNat : Int) % 4294967296)) :=
  hU (by rw [or_four _ _ _ _ T[a].toNat_lt T[a + 1].toNat_lt T[a + 2].toNat_lt T[a + 3].toNat_lt, wordI, byt_of b0, byt_of b1, byt_of b2, byt_of b3])
 have d0 : decide ((a : Int) < 0) = false := by rw [decide_eq_false_iff_not]; omega
 have d1 : decide ((T.size : Int) - 4 < (a : Int)) = false := by rw [decide_eq_false_iff_not]; omega
 have w1 : IntKind.i64.wrap ((a : Int) + 1) = (a : Int) + 1 := IntWalk.i64_in _ (by omega)
 have w2 : IntKind.i64.wrap ((a : Int) + 2) = (a : Int) + 2 := IntWalk.i64_in _ (by omega)
 have w3 : IntKind.i64.wrap ((a : Int) + 3) = (a : Int) + 3 := IntWalk.i64_in _ (by omega)
 have n1 : ((a : Int) + 1).toNat = a + 1 := by omega
 have n2 : ((a : Int) + 2).toNat = a + 2 := by omega
 have n3 : ((a : Int) + 3).toNat = a + 3 := by omega
 have p1 : (0 : Int) ≤ (a : Int) + 1 := by omega
 have p2 : (0 : Int) ≤ (a : Int) + 2 := by omega
 have p3 : (0 : Int) ≤ (a : Int) + 3 := by omega
 go_enter Tryz.func232, Tryz.ntmps232
 go_wp2_with fail
 go_quiet (fail)
 go_wp2_with fail
 go_ret
 exact ⟨ret_int E.out.symm, nq, rfl⟩
theorem WordAtI_any (T : ByteArray) (a : Int) (w : World) (h0 : 0 ≤ a) (h : a + 4 ≤ T.size) (hT : T.size ≤ 1099511627776) : Calls Tryz.prog 232 #[.string T, .int .i64 a] w fun e w' => e = .returned (.int .u32 (wordI T a.toNat)) ∧ ∃ m, w' = w.drewN m := by
 obtain ⟨k, rfl⟩ := Int.eq_ofNat_of_zero_le h0
 rw [Int.toNat_natCast]
 exact WordAt_any T k w (by omega) hT
def wpart (T : ByteArray) (a : Nat) : Nat → Int
 | 0 => 0
 | k + 1 => wpart T a k * 256 + byt T (a + k)
theorem wpart_four (T : ByteArray) (a : Nat) : wpart T a 4 = wordI T a := by simp only [wpart, wordI, Nat.add_zero]; omega
theorem specWordAt_any (T : ByteArray) (a : Nat) (w : World) (h : a + 4 ≤ T.size) (hT : T.size ≤ 1099511627776) : Calls Tryz.prog 273 #[.string T, .int .i64 (a : Int)] w fun e w' => e = .returned (.int .u32 (wordI T a)) ∧ w = w' := by
 have hsz : (4 : Int) ≤ (T.size : Int) := by omega
 have ha : (a : Int) ≤ (T.size : Int) - 4 := by omega
 have d0 : decide ((a : Int) < 0) = false := by rw [decide_eq_false_iff_not]; omega
 have d2 : decide ((T.size : Int) < 4) = false := by rw [decide_eq_false_iff_not]; omega
 have d1 : decide ((T.size : Int) - 4 < (a : Int)) = false := by rw [decide_eq_false_iff_not]; omega
 have E := hU (wpart_four T a)
 go_enter Tryz.func273, Tryz.ntmps273
 go_wp2_with fail
 go_loop [5, 6] (fun x i => ∃ (k : Nat) (q : Int), k ≤ 4 ∧ i = .int .i64 k ∧ x = .int .u32 q ∧ 0 ≤ q ∧ q < 256 ^ k ∧ Hid (q = wpart T a k)) (fun _ i => 4 - (intOf i).toNat)
 case atStart => exact ⟨0, 0, by omega, rfl, rfl, by omega, by decide, hU rfl⟩
 case round =>
  obtain ⟨k, q, hk, rfl, rfl, q0, q1, hq⟩ := hrel
  clear d0 d1 d2
  by_cases hlt : k < 4
  · have ht : a + k < T.size := by omega
    have hb := byt_rng T (a + k)
    obtain ⟨c, hc⟩ : ∃ c, c = byt T (a + k) := ⟨_, rfl⟩
    have Hc := hU hc
    rw [← hc] at hb
    rw [byt_of ht] at hc
    have hq1 : q < 16777216 := by
     have : k = 0 ∨ k = 1 ∨ k = 2 ∨ k = 3 := by omega
     rcases this with rfl | rfl | rfl | rfl <;> omega
    have hq2 : q * 256 + c < 256 ^ (k + 1) := by
     have : k = 0 ∨ k = 1 ∨ k = 2 ∨ k = 3 := by omega
     rcases this with rfl | rfl | rfl | rfl <;> omega
    have E2 : Hid (q * 256 + c = wpart T a (k + 1)) := hU (by rw [hq.out, Hc.out]; rfl)
    clear q1
    obtain ⟨hb0, hb1⟩ := hb
    have hc' : (T[a + k].toNat : Int) = c := hc.symm
    clear hc
    go_wp2_with fail
    go_round
    case rel => exact ⟨k + 1, q * 256 + c, by omega, by go_num, by go_num, by omega, hq2, E2⟩
    case measure => simp [intOf]; omega
  · obtain rfl : k = 4 := by omega
    go_wp2_with fail
    go_ret
    exact ⟨ret_int (by rw [hq.out, E.out]), rfl⟩
theorem specWordAtI_any (T : ByteArray) (a : Int) (w : World) (h0 : 0 ≤ a) (h : a + 4 ≤ T.size) (hT : T.size ≤ 1099511627776) : Calls Tryz.prog 273 #[.string T, .int .i64 a] w fun e w' => e = .returned (.int .u32 (wordI T a.toNat)) ∧ w = w' := by
 obtain ⟨k, rfl⟩ := Int.eq_ofNat_of_zero_le h0
 rw [Int.toNat_natCast]
 exact specWordAt_any T k w (by omega) hT
def wtext (x : Int) : ByteArray := ofInts [x / 16777216, x / 65536 % 256, x / 256 % 256, x % 256]
theorem wtext_size (x : Int) : (wtext x).size = 4 := rfl
theorem WordText_any (x : Int) (w : World) (h0 : 0 ≤ x) (h1 : x < 4294967296) : Calls Tryz.prog 155 #[.int .u32 x] w fun e w' => e = .returned (.string (wtext x)) ∧ Ext w w' := by
 have hconv := conv_bytes [x / 16777216, x / 65536 % 256, x / 256 % 256, x % 256] (by intro y hy; simp only [List.mem_cons, List.not_mem_nil, or_false] at hy; rcases hy with rfl | rfl | rfl | rfl <;> omega) w
 simp only [List.length_cons, List.length_nil, Nat.zero_add, Nat.reduceAdd, List.map_cons, List.map_nil] at hconv
 go_enter Tryz.func155, Tryz.ntmps155
 go_wp2_with fail
 go_ret
 exact ⟨rfl, by go_grown⟩
theorem specWordText_any (x : Int) (w : World) (h0 : 0 ≤ x) (h1 : x < 4294967296) : Calls Tryz.prog 272 #[.int .u32 x] w fun e w' => e = .returned (.string (wtext x)) ∧ Ext w w' := by
 have hconv := conv_bytes [x / 16777216, x / 65536 % 256, x / 256 % 256, x % 256] (by intro y hy; simp only [List.mem_cons, List.not_mem_nil, or_false] at hy; rcases hy with rfl | rfl | rfl | rfl <;> omega) w
 simp only [List.length_cons, List.length_nil, Nat.zero_add, Nat.reduceAdd, List.map_cons, List.map_nil] at hconv
 go_enter Tryz.func272, Tryz.ntmps272
 go_wp2_with fail
 go_ret
 exact ⟨rfl, by go_grown⟩
end Go.Proofs.YtgeengkdgdjcjaaGreat

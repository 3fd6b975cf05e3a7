/-
  Reader; Types; Texts: No condition.
-/
import Derived.Test.YtgeengkdgdjcjaaGreatMem
import Derived.Test.YtgeengkdgdjcjaaGreatName
import Derived.IntWalk
import Derived.Laws.IdiomStrings
import Derived.Laws.BitsAllLaws
import Derived.Laws.BitsLemmas
import Derived.Test.YtgeengkdgdjcjaaGreatProg
namespace Go.Proofs.YtgeengkdgdjcjaaGreat
set_option linter.unusedSimpArgs false
open Go.RowKit
set_option linter.unusedVariables false
theorem ret_str {a b : ByteArray} (h : a = b) : Ending.returned (.string a) = .returned (.string b) := by rw [h]
abbrev ExtBut (g : Nat) (W w : World) : Prop := W.grownBy w (some g)
theorem ExtBut.refl (g : Nat) (w : World) : ExtBut g w w := ⟨rfl, rfl, rfl, Nat.le_refl _, fun _ _ _ => rfl⟩
theorem ExtBut.next {g : Nat} {a b c : World} (h : ExtBut g a b) (k : ExtBut g b c) : ExtBut g a c :=
 ⟨k.os.trans h.os, k.tape.trans h.tape, k.output.trans h.output, Nat.le_trans h.size k.size, fun i hi hne => (k.block i (Nat.lt_of_lt_of_le hi h.size) hne).trans (h.block i hi hne)⟩
theorem ExtBut.of_ext {g : Nat} {a b : World} (h : Ext a b) : ExtBut g a b := ⟨h.os, h.tape, h.output, h.size, fun i hi _ => h.block i hi⟩
theorem ExtBut.drewN {g : Nat} {a b : World} (h : ExtBut g a b) (n : Nat) : ExtBut g a (b.drewN n) := ⟨h.os, h.tape, h.output, h.size, h.block⟩
theorem ExtBut.set_ {g : Nat} {a w : World} (h : ExtBut g a w) (i : Nat) (u : Value) : ExtBut g a (w.setCell ⟨g, i, none⟩ u) :=
 ⟨h.os, h.tape, h.output, by simpa [World.setCell] using h.size, fun k hk hne => (Below.heap_setCell w ⟨g, i, none⟩ u k (by rintro rfl; exact hne rfl)).trans (h.block k hk hne)⟩
theorem Ext.nextBut {W w1 w2 : World} {g : Nat} (h : Ext W w1) (hg : W.heap.size ≤ g) (k : ExtBut g w1 w2) : Ext W w2 :=
 ⟨k.os.trans h.os, k.tape.trans h.tape, k.output.trans h.output, Nat.le_trans h.size k.size, fun i hi => (k.block i (Nat.lt_of_lt_of_le hi h.size) (by simp; omega)).trans (h.block i hi)⟩
theorem Blk.extBut {w w' : World} {g g' : Nat} {t : TypeId} {cs : Array Value} (h : Blk w g' t cs) (k : ExtBut g w w') (hne : g' ≠ g) : Blk w' g' t cs := (k.block g' h.lt (by simp; omega)).trans h
structure Rd where
 pos : Nat
 bad : Bool
def rdFails (T : ByteArray) (r : Rd) (n : Nat) : Bool := r.bad || decide ((T.size : Int) - (r.pos : Int) < (n : Int))
def rdTake (T : ByteArray) (r : Rd) (n : Nat) : ByteArray := if rdFails T r n then ⟨#[]⟩ else T.extract r.pos (r.pos + n)
def rdNext (T : ByteArray) (r : Rd) (n : Nat) : Rd := if rdFails T r n then ⟨r.pos, true⟩ else ⟨r.pos + n, false⟩
def beNum (b : ByteArray) : Nat := b.data.toList.foldl (fun a c => 256 * a + c.toNat) 0
theorem to_bytes {P : Program} {src dst e : TypeId} (s : ByteArray) (hs : P.underlying src = some .string) (hd : P.underlying dst = some (.slice e)) (he : P.underlying e = some (.int .u8)) (w : World) :
 ∃ (cap : Nat) (w1 : World), (convert src dst (.string s)).run P w = .ok (.slice (some ⟨w.heap.size, 0, none⟩) s.size cap) w1 ∧ Ext w w1 ∧ ∀ j (hj : j < s.size), w1.cell? ⟨w.heap.size, j, none⟩ = some (.int .u8 (s[j].toNat : Int)) := by
 refine ⟨_, _, run_bytes_of_string w src dst e s hs hd he, Below.alloc (Below.refl _ _).drew (Nat.le_refl _) _, fun j hj => ?_⟩
 have h := World.cell?_alloc_mark w.drew (bytesRow s (grownCap w s.size 0 e)) e ((bytesRow s (grownCap w s.size 0 e)).size, (bytesRow s (grownCap w s.size 0 e)).size + 1) j
 exact h.trans (bytesRow_at s _ j hj)
def rdShort (T : ByteArray) (r : Rd) (n : Nat) : ByteArray := rdTake T (rdNext T r n) (beNum (rdTake T r n))
def rdShortNext (T : ByteArray) (r : Rd) (n : Nat) : Rd := rdNext T (rdNext T r n) (beNum (rdTake T r n))
def rdDone (T : ByteArray) (r : Rd) : Bool := !r.bad && decide (r.pos = T.size)
structure EntryD where
 topic : ByteArray
 index : Int
 time : Int
 key : ByteArray
 body : ByteArray
def EntryD.cells (d : EntryD) : List Value := [.string d.topic, .int .i64 d.index, .int .i64 d.time, .string d.key, .string d.body]
theorem EntryD.cells_length (d : EntryD) : d.cells.length = 5 := rfl
def EntryD.Ok (d : EntryD) : Prop := d.topic.size ≤ maxLen ∧ (Lit.int .i64 d.index).wf = true ∧ (Lit.int .i64 d.time).wf = true ∧ d.key.size ≤ maxLen ∧ d.body.size ≤ maxLen
structure ReceiptD where
 reader : ByteArray
 topic : ByteArray
 index : Int
def ReceiptD.Ok (d : ReceiptD) : Prop := d.reader.size ≤ maxLen ∧ d.topic.size ≤ maxLen ∧ (Lit.int .i64 d.index).wf = true
structure HeadD where
 number : Int
 size : Int
 root : ByteArray
 taken : Int
 takenRoot : ByteArray
def HeadD.Ok (d : HeadD) : Prop := (Lit.int .i64 d.number).wf = true ∧ (Lit.int .i64 d.size).wf = true ∧ d.root.size ≤ maxLen ∧ (Lit.int .i64 d.taken).wf = true ∧ d.takenRoot.size ≤ maxLen
structure PreD where
 tag : Int
 text : ByteArray
def PreD.cells (d : PreD) : List Value := [.int .i64 d.tag, .string d.text]
theorem PreD.cells_length (d : PreD) : d.cells.length = 2 := rfl
def PreD.Ok (d : PreD) : Prop := (Lit.int .i64 d.tag).wf = true ∧ d.text.size ≤ maxLen
structure GivenD where
 who : Int
 leaf : Int
 entry : EntryD
set_option maxHeartbeats 1000000
set_option maxRecDepth 100000
def ofInts (ns : List Int) : ByteArray := ⟨(ns.map fun x => UInt8.ofNat x.toNat).toArray⟩
theorem conv_bytes (ns : List Int) (h : ∀ x ∈ ns, 0 ≤ x ∧ x < 256) (w : World) :
 (convert 22 9 (.slice (some ⟨w.heap.size, 0, none⟩) ns.length ns.length)).run Tryz.prog (w.alloc (.cells (ns.map (Value.int .u8)).toArray 5)) =
  .ok (.string (ofInts ns)) (w.alloc (.cells (ns.map (Value.int .u8)).toArray 5)) := by
 have hb := Blk.new w 5 (ns.map (Value.int .u8)).toArray
 have h0 := run_convert_bytes_back (P := Tryz.prog) (w.alloc (.cells (ns.map (Value.int .u8)).toArray 5)) 22 9 5 ⟨w.heap.size, 0, none⟩ ns.length (ns.map fun x => UInt8.ofNat x.toNat)
  Tryz.underlying22 Tryz.underlying5 Tryz.underlying9 (fun j hj => by
   rw [add_mk, Nat.zero_add, hb.cell]
   have hj' : j < ns.length := by simpa using hj
   obtain ⟨h1, h2⟩ := h ns[j] (List.getElem_mem hj')
   simp only [List.getElem?_toArray, List.getElem?_map, List.getElem?_eq_getElem hj', Option.map_some, List.getElem_map, Option.some.injEq, Value.int.injEq, true_and]
   rw [UInt8.toNat_ofNat_of_lt' (by show ns[j].toNat < 256; omega)]
   omega)
 simp only [List.length_map] at h0
 exact h0
def octB (n : Int) : ByteArray := ofInts [n % 256]
theorem octet_any (n : Int) (w : World) : Calls Tryz.prog 224 #[.int .i64 n] w fun e w' => e = .returned (.string (octB n)) ∧ Ext w w' := by
 have hconv := conv_bytes [n % 256] (by intro x hx; simp only [List.mem_singleton] at hx; subst hx; omega) w
 simp only [List.length_cons, List.length_nil, Nat.zero_add, List.map_cons, List.map_nil] at hconv
 go_enter Tryz.func224, Tryz.ntmps224
 go_wp2_with fail
 go_ret
 exact ⟨rfl, by go_grown⟩
theorem octB_size (n : Int) : (octB n).size = 1 := rfl
theorem pair_any (n : Int) (w : World) (h0 : 0 ≤ n) (h1 : n ≤ 65535) : Calls Tryz.prog 154 #[.int .i64 n] w fun e w' => e = .returned (.string (octB (n / 256) ++ octB n)) ∧ Ext w w' := by
 go_enter Tryz.func154, Tryz.ntmps154
 go_wp2_with fail
 refine (octet_any _ _).mono ?_
 rintro e w1 ⟨rfl, he⟩
 go_wp2_with fail
 refine (octet_any _ _).mono ?_
 rintro e w2 ⟨rfl, h1⟩
 replace he := he.next h1
 go_wp2_with fail
 go_ret
 exact ⟨rfl, he⟩
theorem shortS_any (s : ByteArray) (w : World) (hs : s.size ≤ 1099511627776) : Calls Tryz.prog 153 #[.string s] w fun e w' => e = .returned (.string (octB s.size ++ s)) ∧ Ext w w' := by
 have hz : (octB (s.size : Int)).size ≤ 1 := by rw [octB_size]; exact Nat.le_refl _
 go_enter Tryz.func153, Tryz.ntmps153
 go_wp2_with fail
 refine (octet_any _ _).mono ?_
 rintro e w1 ⟨rfl, he⟩
 go_wp2_with fail
 go_ret
 exact ⟨rfl, he⟩
def lowB (n : Nat) : Nat → ByteArray
 | 0 => ⟨#[]⟩
 | i + 1 => octB ((n / 256 ^ i : Nat) : Int) ++ lowB n i
theorem lowB_size (n : Nat) : ∀ i, (lowB n i).size = i
 | 0 => rfl
 | i + 1 => by rw [lowB, ByteArray.size_append, octB_size, lowB_size n i, Nat.add_comm]
theorem l03Number_any (n b : Nat) (w : World) (hn : n ≤ 1099511627776) (hb : b ≤ 16) : Calls Tryz.prog 99 #[.int .i64 (n : Int), .int .i64 (b : Int)] w fun e w' => e = .returned (.string (lowB n b)) ∧ Ext w w' := by
 have Hs := hU (lowB_size n)
 go_enter Tryz.func99, Tryz.ntmps99
 go_wp2_with fail
 go_loopw [0, 5, 6] (fun sn st i wr => ∃ (k q : Nat) (t : ByteArray), k ≤ b ∧ i = .int .i64 k ∧ sn = .int .i64 q ∧ st = .string t ∧ q ≤ 1099511627776 ∧ t.size ≤ 16 ∧ Hid (q = n / 256 ^ k) ∧ Hid (t = lowB n k) ∧ Ext w wr) (fun _ _ i _ => b - (intOf i).toNat)
 case atStart => exact ⟨0, n, ⟨#[]⟩, Nat.zero_le _, rfl, rfl, rfl, hn, by decide, hU (by simp), hU rfl, Below.refl _ _⟩
 case round =>
  obtain ⟨k, q, t, hk, rfl, rfl, rfl, hq, ht, eq, et, he⟩ := hrel
  by_cases hlt : k < b
  · have hconv := conv_bytes [(q : Int) % 256] (by intro x hx; simp only [List.mem_singleton] at hx; subst hx; omega) wr
    simp only [List.length_cons, List.length_nil, Nat.zero_add, List.map_cons, List.map_nil] at hconv
    have ho : ofInts [(q : Int) % 256] = octB q := rfl
    rw [ho] at hconv
    clear ho
    have hz : (octB (q : Int)).size ≤ 1 := by rw [octB_size]; exact Nat.le_refl _
    have E1 := hU (show q / 256 = n / 256 ^ (k + 1) by rw [eq.out, Nat.div_div_eq_div_mul, ← Nat.pow_succ])
    have E2 := hU (show octB (q : Int) ++ t = lowB n (k + 1) by rw [et.out, eq.out]; rfl)
    have E3 : (octB (q : Int) ++ t).size ≤ 16 := by rw [E2.out, Hs.out]; omega
    go_wp2_with fail
    go_roundw
    case rel => exact ⟨k + 1, q / 256, _, by omega, by go_num, by go_num, rfl, by omega, E3, E1, E2, he.new _⟩
    case measure => simp [intOf]; omega
  · have E : Hid (t = lowB n b) := by
     obtain rfl : k = b := by omega
     exact et
    go_wp2_with fail
    go_ret
    exact ⟨ret_str E.out, he⟩
theorem append_nil (a : ByteArray) : a ++ ⟨#[]⟩ = a := by
 apply ByteArray.ext
 rw [ByteArray.data_append]
 exact Array.append_empty
theorem lowB_one (n : Nat) : lowB n 1 = octB n := by
 show octB ((n / 256 ^ 0 : Nat) : Int) ++ ⟨#[]⟩ = _
 rw [append_nil]; simp
theorem lowB_two (n : Nat) : lowB n 2 = octB ((n : Int) / 256) ++ octB n := by
 show octB ((n / 256 ^ 1 : Nat) : Int) ++ lowB n 1 = _
 rw [lowB_one]; simp
theorem l03NumberI_any (n : Int) (b : Nat) (w : World) (h0 : 0 ≤ n) (hn : n ≤ 1099511627776) (hb : b ≤ 16) : Calls Tryz.prog 99 #[.int .i64 n, .int .i64 (b : Int)] w fun e w' => e = .returned (.string (lowB n.toNat b)) ∧ Ext w w' := by
 obtain ⟨m, rfl⟩ := Int.eq_ofNat_of_zero_le h0
 rw [Int.toNat_natCast]
 exact l03Number_any m b w (by omega) hb
theorem l03Short_any (s : ByteArray) (w : World) (hs : s.size ≤ 1099511627776) : Calls Tryz.prog 98 #[.string s] w fun e w' => e = .returned (.string (lowB s.size 1 ++ s)) ∧ Ext w w' := by
 have hz : (lowB s.size 1).size ≤ 1 := by rw [lowB_size]; exact Nat.le_refl _
 go_enter Tryz.func98, Tryz.ntmps98
 go_wp2_with fail
 refine (l03Number_any s.size 1 _ hs (by decide)).mono ?_
 rintro e w1 ⟨rfl, he⟩
 go_wp2_with fail
 go_ret
 exact ⟨rfl, he⟩
end Go.Proofs.YtgeengkdgdjcjaaGreat

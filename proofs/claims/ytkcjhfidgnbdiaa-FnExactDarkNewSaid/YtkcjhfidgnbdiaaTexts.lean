/-
  The readers of texts: walks. No condition.
  The texts of entries and receipts: walks. No condition.
-/
import Derived.Test.YtkcjhfidgnbdiaaMem
import Derived.Test.YtkcjhfidgnbdiaaName
import Derived.IntWalk
import Derived.Laws.IdiomStrings
import Derived.Laws.BitsAllLaws
import Derived.Laws.BitsLemmas
import Derived.Test.YtkcjhfidgnbdiaaTypes
namespace Go.Proofs.Ytkcjhfidgnbdiaa
set_option linter.unusedSimpArgs false
open Go.RowKit
set_option linter.unusedVariables false

theorem ret_str {a b : ByteArray} (h : a = b) : Ending.returned (.string a) = .returned (.string b) := by rw [h]
/-- All but block g is as it was. -/
abbrev ExtBut (g : Nat) (W w : World) : Prop := W.grownBy w (some g)
theorem ExtBut.refl (g : Nat) (w : World) : ExtBut g w w := ⟨rfl, rfl, rfl, Nat.le_refl _, fun _ _ _ => rfl⟩
theorem ExtBut.next {g : Nat} {a b c : World} (h : ExtBut g a b) (k : ExtBut g b c) : ExtBut g a c :=
  ⟨k.os.trans h.os, k.tape.trans h.tape, k.output.trans h.output, Nat.le_trans h.size k.size, fun i hi hne => (k.block i (Nat.lt_of_lt_of_le hi h.size) hne).trans (h.block i hi hne)⟩
theorem ExtBut.of_ext {g : Nat} {a b : World} (h : Ext a b) : ExtBut g a b := ⟨h.os, h.tape, h.output, h.size, fun i hi _ => h.block i hi⟩
theorem ExtBut.drewN {g : Nat} {a b : World} (h : ExtBut g a b) (n : Nat) : ExtBut g a (b.drewN n) := ⟨h.os, h.tape, h.output, h.size, h.block⟩
theorem ExtBut.set_ {g : Nat} {a w : World} (h : ExtBut g a w) (i : Nat) (u : Value) : ExtBut g a (w.setCell ⟨g, i, none⟩ u) :=
  ⟨h.os, h.tape, h.output, by simpa [World.setCell] using h.size, fun k hk hne => (Below.heap_setCell w ⟨g, i, none⟩ u k (by rintro rfl; exact hne rfl)).trans (h.block k hk hne)⟩
theorem Ext.nextBut {W w1 w2 : World} {g : Nat} (h : Ext W w1) (hg : W.heap.size ≤ g) (k : ExtBut g w1 w2) : Ext W w2 :=
  ⟨k.os.trans h.os, k.tape.trans h.tape, k.output.trans h.output, Nat.le_trans h.size k.size, fun i hi => (k.block i (Nat.lt_of_lt_of_le hi h.size) (by simp; omega)).trans (h.block i hi)⟩
theorem Blk.extBut {w w' : World} {g g' : Nat} {t : TypeId} {cs : Array Value} (h : Blk w g' t cs) (k : ExtBut g w w') (hne : g' ≠ g) : Blk w' g' t cs := (k.block g' h.lt (by simp; omega)).trans h

/-- The state of a reader: how far it is, whether it was bad. -/
structure Rd where
  pos : Nat
  bad : Bool
def rdFails (T : ByteArray) (r : Rd) (n : Nat) : Bool := r.bad || decide ((T.size : Int) - (r.pos : Int) < (n : Int))
def rdTake (T : ByteArray) (r : Rd) (n : Nat) : ByteArray := if rdFails T r n then ⟨#[]⟩ else T.extract r.pos (r.pos + n)
def rdNext (T : ByteArray) (r : Rd) (n : Nat) : Rd := if rdFails T r n then ⟨r.pos, true⟩ else ⟨r.pos + n, false⟩
/-- The cells of a reader. -/
def rdCells (T : ByteArray) (r : Rd) : Array Value := #[.string T, .int .i64 (r.pos : Int), .bool r.bad]


/-- The number that bytes tell, the highest first. -/
def beNum (b : ByteArray) : Nat := b.data.toList.foldl (fun a c => 256 * a + c.toNat) 0
theorem beNum_lt : ∀ (l : List UInt8) (a : Nat), l.foldl (fun a c => 256 * a + c.toNat) a < (a + 1) * 256 ^ l.length
  | [], a => by simp
  | c :: l, a => by
    have h := beNum_lt l (256 * a + c.toNat)
    have hc : c.toNat < 256 := c.toNat_lt
    have h2 : (256 * a + c.toNat + 1) * 256 ^ l.length ≤ ((a + 1) * 256) * 256 ^ l.length := Nat.mul_le_mul_right _ (by omega)
    rw [List.length_cons, Nat.pow_succ]
    simp only [List.foldl_cons]
    calc _ < _ := h
      _ ≤ _ := h2
      _ = _ := by rw [Nat.mul_assoc, Nat.mul_comm 256]
def NumInv (b : ByteArray) (k : Nat) (v : Nat) : Prop := v = (b.data.toList.take k).foldl (fun a c => 256 * a + c.toNat) 0
theorem NumInv.start (b : ByteArray) : NumInv b 0 0 := by simp [NumInv]
theorem NumInv.step {b : ByteArray} {k v : Nat} (h : NumInv b k v) (hk : k < b.size) : NumInv b (k + 1) (256 * v + b[k].toNat) := by
  unfold NumInv at *
  rw [List.take_succ_eq_append_getElem (by simpa using hk), List.foldl_append, ← h]
  rfl
theorem NumInv.done {b : ByteArray} {k v : Nat} (h : NumInv b k v) (hk : b.size ≤ k) : v = beNum b := by
  unfold NumInv at h
  rw [List.take_of_length_le (by simpa using hk)] at h
  exact h
theorem NumInv.lt {b : ByteArray} {k v : Nat} (h : NumInv b k v) (hk : k ≤ 4) : v < 4294967296 := by
  rw [h]
  have := beNum_lt (b.data.toList.take k) 0
  have h2 : (b.data.toList.take k).length ≤ 4 := by rw [List.length_take]; omega
  have h3 : 256 ^ (b.data.toList.take k).length ≤ 256 ^ 4 := Nat.pow_le_pow_right (by decide) h2
  simp only [Nat.zero_add, Nat.one_mul] at this
  omega
theorem rdTake_size (T : ByteArray) (r : Rd) (n : Nat) : (rdTake T r n).size ≤ n := by
  unfold rdTake
  split
  · exact Nat.zero_le _
  · rw [ByteArray.size_extract]; omega

theorem ofInt_i64 (a : Nat) (ha : a < 9223372036854775808) : (BitVec.ofInt 64 (a : Int)).toNat = a := by
  rw [BitVec.ofInt_natCast, BitVec.toNat_ofNat]; exact Nat.mod_eq_of_lt (by omega)
theorem i64_or_nat (a b : Nat) (ha : a < 9223372036854775808) (hb : b < 9223372036854775808) : bits .or .i64 (a : Int) (b : Int) = ((a ||| b : Nat) : Int) := by
  have hx : a ||| b < 2 ^ 63 := Nat.or_lt_two_pow (by omega) (by omega)
  show IntKind.i64.wrap ((BitVec.ofInt 64 (a : Int) ||| BitVec.ofInt 64 (b : Int)).toNat : Int) = _
  rw [BitVec.toNat_or, ofInt_i64 a ha, ofInt_i64 b hb, IntKind.wrap_i64]
  omega
theorem or_byte (q c : Nat) (hq : q < 4294967296) (hc : c < 256) : bits .or .i64 ((q : Int) * 256) (c : Int) = ((256 * q + c : Nat) : Int) := by
  have h : 256 * q + c = 256 * q ||| c := Nat.two_pow_add_eq_or_of_lt (i := 8) (by omega) q
  rw [h, ← i64_or_nat _ _ (by omega) (by omega), show ((256 * q : Nat) : Int) = (q : Int) * 256 by omega]

/-- '[]byte(s)': a new block that holds the bytes. -/
theorem to_bytes {P : Program} {src dst e : TypeId} (s : ByteArray) (hs : P.underlying src = some .string) (hd : P.underlying dst = some (.slice e)) (he : P.underlying e = some (.int .u8)) (w : World) :
    ∃ (cap : Nat) (w1 : World), (convert src dst (.string s)).run P w = .ok (.slice (some ⟨w.heap.size, 0, none⟩) s.size cap) w1 ∧ Ext w w1 ∧ ∀ j (hj : j < s.size), w1.cell? ⟨w.heap.size, j, none⟩ = some (.int .u8 (s[j].toNat : Int)) := by
  refine ⟨_, _, run_bytes_of_string w src dst e s hs hd he, Below.alloc (Below.refl _ _).drew (Nat.le_refl _) _, fun j hj => ?_⟩
  have h := World.cell?_alloc_mark w.drew (bytesRow s (grownCap w s.size 0 e)) e ((bytesRow s (grownCap w s.size 0 e)).size, (bytesRow s (grownCap w s.size 0 e)).size + 1) j
  exact h.trans (bytesRow_at s _ j hj)


theorem rdNext_pos (T : ByteArray) (r : Rd) (n : Nat) (h : r.pos ≤ T.size) : (rdNext T r n).pos ≤ T.size := by
  unfold rdNext
  split
  · exact h
  · rename_i hf
    simp only [rdFails, Bool.or_eq_true, decide_eq_true_eq, not_or] at hf
    show r.pos + n ≤ T.size
    omega
theorem beNum_le (b : ByteArray) (h : b.size ≤ 4) : beNum b < 4294967296 := by
  have := (show NumInv b b.size (beNum b) by unfold NumInv beNum; rw [List.take_of_length_le (by simp)]).lt h
  exact this
/-- A length of n bytes, and as many bytes. -/
def rdShort (T : ByteArray) (r : Rd) (n : Nat) : ByteArray := rdTake T (rdNext T r n) (beNum (rdTake T r n))
def rdShortNext (T : ByteArray) (r : Rd) (n : Nat) : Rd := rdNext T (rdNext T r n) (beNum (rdTake T r n))
def rdDone (T : ByteArray) (r : Rd) : Bool := !r.bad && decide (r.pos = T.size)
end Go.Proofs.Ytkcjhfidgnbdiaa
namespace Go.Proofs.Ytkcjhfidgnbdiaa
set_option linter.unusedSimpArgs false
open Go.RowKit
set_option linter.unusedVariables false

/-- The text of bytes that are told as numbers. -/
def ofInts (ns : List Int) : ByteArray := ⟨(ns.map fun x => UInt8.ofNat x.toNat).toArray⟩
theorem conv_bytes (ns : List Int) (h : ∀ x ∈ ns, 0 ≤ x ∧ x < 256) (w : World) :
    (convert 22 9 (.slice (some ⟨w.heap.size, 0, none⟩) ns.length ns.length)).run Try.prog (w.alloc (.cells (ns.map (Value.int .u8)).toArray 5)) =
      .ok (.string (ofInts ns)) (w.alloc (.cells (ns.map (Value.int .u8)).toArray 5)) := by
  have hb := Blk.new w 5 (ns.map (Value.int .u8)).toArray
  have h0 := run_convert_bytes_back (P := Try.prog) (w.alloc (.cells (ns.map (Value.int .u8)).toArray 5)) 22 9 5 ⟨w.heap.size, 0, none⟩ ns.length (ns.map fun x => UInt8.ofNat x.toNat)
    Try.underlying22 Try.underlying5 Try.underlying9 (fun j hj => by
      rw [add_mk, Nat.zero_add, hb.cell]
      have hj' : j < ns.length := by simpa using hj
      obtain ⟨h1, h2⟩ := h ns[j] (List.getElem_mem hj')
      simp only [List.getElem?_toArray, List.getElem?_map, List.getElem?_eq_getElem hj', Option.map_some, List.getElem_map, Option.some.injEq, Value.int.injEq, true_and]
      rw [UInt8.toNat_ofNat_of_lt' (by show ns[j].toNat < 256; omega)]
      omega)
  simp only [List.length_map] at h0
  exact h0
/-- A number in one byte. -/
def octB (n : Int) : ByteArray := ofInts [n % 256]
theorem octB_size (n : Int) : (octB n).size = 1 := rfl
/-- The lowest i bytes of a number, the highest first. -/
def lowB (n : Nat) : Nat → ByteArray
  | 0 => ⟨#[]⟩
  | i + 1 => octB ((n / 256 ^ i : Nat) : Int) ++ lowB n i
theorem lowB_size (n : Nat) : ∀ i, (lowB n i).size = i
  | 0 => rfl
  | i + 1 => by rw [lowB, ByteArray.size_append, octB_size, lowB_size n i, Nat.add_comm]
theorem append_nil (a : ByteArray) : a ++ ⟨#[]⟩ = a := by
  apply ByteArray.ext
  rw [ByteArray.data_append]
  exact Array.append_empty
theorem lowB_one (n : Nat) : lowB n 1 = octB n := by
  show octB ((n / 256 ^ 0 : Nat) : Int) ++ ⟨#[]⟩ = _
  rw [append_nil]; simp
theorem lowB_two (n : Nat) : lowB n 2 = octB ((n : Int) / 256) ++ octB n := by
  show octB ((n / 256 ^ 1 : Nat) : Int) ++ lowB n 1 = _
  rw [lowB_one]; simp
end Go.Proofs.Ytkcjhfidgnbdiaa

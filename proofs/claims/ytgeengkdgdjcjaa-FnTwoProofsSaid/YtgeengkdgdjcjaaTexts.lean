/-
  Name; Reader; Types; Texts: No condition.
-/
import Derived.Test.YtgeengkdgdjcjaaProg
import Derived.Test.YtgeengkdgdjcjaaSmall
import Derived.Test.YtgeengkdgdjcjaaMem
import Derived.IntWalk
import Derived.Laws.IdiomStrings
import Derived.Laws.BitsAllLaws
import Derived.Laws.BitsLemmas
namespace Go.Proofs.Ytgeengkdgdjcjaa
set_option linter.unusedSimpArgs false
open Go.RowKit
set_option linter.unusedVariables false
theorem ret_bool {a b : Bool} (h : a = b) : Ending.returned (.bool a) = .returned (.bool b) := by rw [h]
theorem Ext.drewN {W w : World} (h : Ext W w) (n : Nat) : Ext W (w.drewN n) := ⟨h.os, h.tape, h.output, h.size, h.block⟩
theorem ret_str {a b : ByteArray} (h : a = b) : Ending.returned (.string a) = .returned (.string b) := by rw [h]
abbrev ExtBut (g : Nat) (W w : World) : Prop := W.grownBy w (some g)
theorem ExtBut.refl (g : Nat) (w : World) : ExtBut g w w := ⟨rfl, rfl, rfl, Nat.le_refl _, fun _ _ _ => rfl⟩
theorem ExtBut.next {g : Nat} {a b c : World} (h : ExtBut g a b) (k : ExtBut g b c) : ExtBut g a c :=
 ⟨k.os.trans h.os, k.tape.trans h.tape, k.output.trans h.output, Nat.le_trans h.size k.size, fun i hi hne => (k.block i (Nat.lt_of_lt_of_le hi h.size) hne).trans (h.block i hi hne)⟩
theorem ExtBut.of_ext {g : Nat} {a b : World} (h : Ext a b) : ExtBut g a b := ⟨h.os, h.tape, h.output, h.size, fun i hi _ => h.block i hi⟩
theorem ExtBut.drewN {g : Nat} {a b : World} (h : ExtBut g a b) (n : Nat) : ExtBut g a (b.drewN n) := ⟨h.os, h.tape, h.output, h.size, h.block⟩
theorem ExtBut.set_ {g : Nat} {a w : World} (h : ExtBut g a w) (i : Nat) (u : Value) : ExtBut g a (w.setCell ⟨g, i, none⟩ u) :=
 ⟨h.os, h.tape, h.output, by simpa [World.setCell] using h.size, fun k hk hne => (Below.heap_setCell w ⟨g, i, none⟩ u k (by rintro rfl; exact hne rfl)).trans (h.block k hk hne)⟩
theorem Ext.nextBut {W w1 w2 : World} {g : Nat} (h : Ext W w1) (hg : W.heap.size ≤ g) (k : ExtBut g w1 w2) : Ext W w2 :=
 ⟨k.os.trans h.os, k.tape.trans h.tape, k.output.trans h.output, Nat.le_trans h.size k.size, fun i hi => (k.block i (Nat.lt_of_lt_of_le hi h.size) (by simp; omega)).trans (h.block i hi)⟩
theorem Blk.extBut {w w' : World} {g g' : Nat} {t : TypeId} {cs : Array Value} (h : Blk w g' t cs) (k : ExtBut g w w') (hne : g' ≠ g) : Blk w' g' t cs := (k.block g' h.lt (by simp; omega)).trans h
theorem to_bytes {P : Program} {src dst e : TypeId} (s : ByteArray) (hs : P.underlying src = some .string) (hd : P.underlying dst = some (.slice e)) (he : P.underlying e = some (.int .u8)) (w : World) :
 ∃ (cap : Nat) (w1 : World), (convert src dst (.string s)).run P w = .ok (.slice (some ⟨w.heap.size, 0, none⟩) s.size cap) w1 ∧ Ext w w1 ∧ ∀ j (hj : j < s.size), w1.cell? ⟨w.heap.size, j, none⟩ = some (.int .u8 (s[j].toNat : Int)) := by
 refine ⟨_, _, run_bytes_of_string w src dst e s hs hd he, Below.alloc (Below.refl _ _).drew (Nat.le_refl _) _, fun j hj => ?_⟩
 have h := World.cell?_alloc_mark w.drew (bytesRow s (grownCap w s.size 0 e)) e ((bytesRow s (grownCap w s.size 0 e)).size, (bytesRow s (grownCap w s.size 0 e)).size + 1) j
 exact h.trans (bytesRow_at s _ j hj)
structure EntryD where
 topic : ByteArray
 index : Int
 time : Int
 key : ByteArray
 body : ByteArray
structure PreD where
 tag : Int
 text : ByteArray
def PreD.cells (d : PreD) : List Value := [.int .i64 d.tag, .string d.text]
theorem PreD.cells_length (d : PreD) : d.cells.length = 2 := rfl
def PreD.Ok (d : PreD) : Prop := (Lit.int .i64 d.tag).wf = true ∧ d.text.size ≤ maxLen
structure GivenD where
 who : Int
 leaf : Int
 entry : EntryD
def ofInts (ns : List Int) : ByteArray := ⟨(ns.map fun x => UInt8.ofNat x.toNat).toArray⟩
theorem conv_bytes (ns : List Int) (h : ∀ x ∈ ns, 0 ≤ x ∧ x < 256) (w : World) :
 (convert 22 9 (.slice (some ⟨w.heap.size, 0, none⟩) ns.length ns.length)).run Try.prog (w.alloc (.cells (ns.map (Value.int .u8)).toArray 5)) =
  .ok (.string (ofInts ns)) (w.alloc (.cells (ns.map (Value.int .u8)).toArray 5)) := by
 have hb := Blk.new w 5 (ns.map (Value.int .u8)).toArray
 have h0 := run_convert_bytes_back (P := Try.prog) (w.alloc (.cells (ns.map (Value.int .u8)).toArray 5)) 22 9 5 ⟨w.heap.size, 0, none⟩ ns.length (ns.map fun x => UInt8.ofNat x.toNat)
  Try.underlying22 Try.underlying5 Try.underlying9 (fun j hj => by
   rw [add_mk, Nat.zero_add, hb.cell]
   have hj' : j < ns.length := by simpa using hj
   obtain ⟨h1, h2⟩ := h ns[j] (List.getElem_mem hj')
   simp only [List.getElem?_toArray, List.getElem?_map, List.getElem?_eq_getElem hj', Option.map_some, List.getElem_map, Option.some.injEq, Value.int.injEq, true_and]
   rw [UInt8.toNat_ofNat_of_lt' (by show ns[j].toNat < 256; omega)]
   omega)
 simp only [List.length_map] at h0
 exact h0
theorem append_nil (a : ByteArray) : a ++ ⟨#[]⟩ = a := by
 apply ByteArray.ext
 rw [ByteArray.data_append]
 exact Array.append_empty
end Go.Proofs.Ytgeengkdgdjcjaa

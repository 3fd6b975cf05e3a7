/-
  The texts of entries and receipts: walks. No condition.
-/
import Derived.Test.YtichegndafnjeaaDoorReader
import Derived.Test.YtichegndafnjeaaDoorTypes
namespace Go.Proofs.YtichegndafnjeaaDoor
set_option linter.unusedSimpArgs false
open Go.RowKit
set_option linter.unusedVariables false

/-- The text of bytes that are told as numbers. -/
def ofInts (ns : List Int) : ByteArray := ⟨(ns.map fun x => UInt8.ofNat x.toNat).toArray⟩
theorem conv_bytes (ns : List Int) (h : ∀ x ∈ ns, 0 ≤ x ∧ x < 256) (w : World) :
    (convert 103 9 (.slice (some ⟨w.heap.size, 0, none⟩) ns.length ns.length)).run Tryd.prog (w.alloc (.cells (ns.map (Value.int .u8)).toArray 5)) =
      .ok (.string (ofInts ns)) (w.alloc (.cells (ns.map (Value.int .u8)).toArray 5)) := by
  have hb := Blk.new w 5 (ns.map (Value.int .u8)).toArray
  have h0 := run_convert_bytes_back (P := Tryd.prog) (w.alloc (.cells (ns.map (Value.int .u8)).toArray 5)) 103 9 5 ⟨w.heap.size, 0, none⟩ ns.length (ns.map fun x => UInt8.ofNat x.toNat)
    Tryd.underlying103 Tryd.underlying5 Tryd.underlying9 (fun j hj => by
      rw [add_mk, Nat.zero_add, hb.cell]
      have hj' : j < ns.length := by simpa using hj
      obtain ⟨h1, h2⟩ := h ns[j] (List.getElem_mem hj')
      simp only [List.getElem?_toArray, List.getElem?_map, List.getElem?_eq_getElem hj', Option.map_some, List.getElem_map, Option.some.injEq, Value.int.injEq, true_and]
      rw [UInt8.toNat_ofNat_of_lt' (by show ns[j].toNat < 256; omega)]
      omega)
  simp only [List.length_map] at h0
  exact h0
/-- A number in one byte. -/
def octB (n : Int) : ByteArray := ofInts [n % 256]
theorem octB_size (n : Int) : (octB n).size = 1 := rfl
/-- The lowest i bytes of a number, the highest first. -/
def lowB (n : Nat) : Nat → ByteArray
  | 0 => ⟨#[]⟩
  | i + 1 => octB ((n / 256 ^ i : Nat) : Int) ++ lowB n i
theorem lowB_size (n : Nat) : ∀ i, (lowB n i).size = i
  | 0 => rfl
  | i + 1 => by rw [lowB, ByteArray.size_append, octB_size, lowB_size n i, Nat.add_comm]
theorem append_nil (a : ByteArray) : a ++ ⟨#[]⟩ = a := by
  apply ByteArray.ext
  rw [ByteArray.data_append]
  exact Array.append_empty
theorem lowB_one (n : Nat) : lowB n 1 = octB n := by
  show octB ((n / 256 ^ 0 : Nat) : Int) ++ ⟨#[]⟩ = _
  rw [append_nil]; simp
theorem lowB_two (n : Nat) : lowB n 2 = octB ((n : Int) / 256) ++ octB n := by
  show octB ((n / 256 ^ 1 : Nat) : Int) ++ lowB n 1 = _
  rw [lowB_one]; simp
end Go.Proofs.YtichegndafnjeaaDoor

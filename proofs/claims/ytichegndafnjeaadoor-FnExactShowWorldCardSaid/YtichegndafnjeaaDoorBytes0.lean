/-
  Rows of bytes, and texts of them. No condition.
-/
import Derived.Test.YtichegndafnjeaaDoorTexts
import Derived.Test.YtichegndafnjeaaDoorOwn
namespace Go.Proofs.YtichegndafnjeaaDoor
set_option linter.unusedSimpArgs false
open Go.RowKit
set_option linter.unusedVariables false

theorem info_u8 : (Tryd.prog.info? 5).map (fun i => (i.zero, i.size, i.bytes)) = some (some (.int .u8 0), 1, 1) := by kernel_rfl
/-- Bytes as cells. -/
def bvals (l : List Int) : List Value := l.map (.int .u8)
theorem bvals_len (l : List Int) : (bvals l).length = l.length := by simp [bvals]
theorem bvals_snoc (l : List Int) (x : Int) : bvals l ++ [.int .u8 x] = bvals (l ++ [x]) := by simp [bvals]
theorem ofInts_append (a b : List Int) : ofInts (a ++ b) = ofInts a ++ ofInts b := by
  apply ByteArray.ext
  simp [ofInts, ByteArray.data_append]
/-- 'string(out)' of a row of bytes of the call's own. -/
theorem own_string {w : World} {B : Nat} {A : Option Addr} {c : Nat} {l : List Int} {n : Nat} (hn : n = l.length) (h : w.ownsRow B 5 1 (.slice A n c) n (bvals l)) (h0 : 0 < n) (hb : ∀ x ∈ l, 0 ≤ x ∧ x < 256) :
    (convert 103 9 (.slice A n c)).run Tryd.prog w = .ok (.string (ofInts l)) w := by
  subst hn
  rcases h.2 with ⟨_, h2⟩ | ⟨g, cap, cur, hv, hg, hh, hnc, hm, hs, ht⟩
  · omega
  · obtain ⟨rfl, _, rfl⟩ : A = some ⟨g, 0, none⟩ ∧ l.length = l.length ∧ c = cap := by simpa using hv
    have h0 := run_convert_bytes_back (P := Tryd.prog) w 103 9 5 ⟨g, 0, none⟩ c (l.map fun x => UInt8.ofNat x.toNat)
      Tryd.underlying103 Tryd.underlying5 Tryd.underlying9 (fun j hj => by
        rw [add_mk, Nat.zero_add, h.cellAt j (by simpa using hj)]
        have hj' : j < l.length := by simpa using hj
        obtain ⟨h1, h2⟩ := hb l[j] (List.getElem_mem hj')
        simp only [bvals, List.getElem?_map, List.getElem?_eq_getElem hj', Option.map_some, List.getElem_map, Option.some.injEq, Value.int.injEq, true_and]
        rw [UInt8.toNat_ofNat_of_lt' (by show l[j].toNat < 256; omega)]
        omega)
    simp only [List.length_map] at h0
    exact h0
end Go.Proofs.YtichegndafnjeaaDoor

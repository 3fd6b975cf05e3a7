/-
  markStringS, heldStringS: walks. No condition.
  PreHash and Broken: walks. No condition.
-/
import Derived.Test.YtkcjhfidgnbdiaaMarkS
import Derived.Test.YtkcjhfidgnbdiaaSpecDigest
import Derived.Test.YtkcjhfidgnbdiaaEqs
namespace Go.Proofs.Ytkcjhfidgnbdiaa
set_option linter.unusedSimpArgs false
open Go.RowKit
set_option linter.unusedVariables false

def mkd (cs : Array Value) (k : Nat) : Nat → Array Value
  | 0 => cs
  | i + 1 => (mkd cs k i).setIfInBounds i (.string (markB (k + i)))
theorem mkd_size (cs : Array Value) (k : Nat) : ∀ i, (mkd cs k i).size = cs.size
  | 0 => rfl
  | i + 1 => by rw [mkd, Array.size_setIfInBounds, mkd_size cs k i]
theorem mkd_at (cs : Array Value) (k : Nat) : ∀ (i j : Nat), j < i → j < cs.size → (mkd cs k i)[j]? = some (.string (markB (k + j)))
  | 0, j, h, _ => absurd h (by omega)
  | i + 1, j, h, hs => by
    rw [mkd, Array.getElem?_setIfInBounds]
    split
    · rename_i e; subst e; rw [if_pos (by rw [mkd_size]; exact hs)]
    · exact mkd_at cs k i j (by omega) hs
set_option maxHeartbeats 1000000 in
set_option maxRecDepth 100000 in
theorem markStringS_any (g n c k : Nat) (cs : Array Value) (w : World) (hB : Blk w g 9 cs) (hn : n ≤ cs.size) (hl : n ≤ 1048576) (hk : k ≤ 1073741824) :
    Calls Try.prog 22 #[.slice (some ⟨g, 0, none⟩) n c, .int .i64 (k : Int)] w fun e w' => e = .returned (.int .i64 ((k + n : Nat) : Int)) ∧ Blk w' g 9 (mkd cs k n) ∧ ExtBut g w w' := by
  have Hn := Lib.hid hn
  clear hn
  go_enter Try.func22, Try.ntmps22
  go_wp2_with fail
  go_loopw [1, 5] (fun q i wr => ∃ (j : Nat), j ≤ n ∧ i = .int .i64 j ∧ q = .int .i64 ((k + j : Nat) : Int) ∧ Blk wr g 9 (mkd cs k j) ∧ ExtBut g w wr) (fun _ i _ => n - (intOf i).toNat)
  case atStart => exact ⟨0, Nat.zero_le _, rfl, rfl, hB, ExtBut.refl g w⟩
  case round =>
    clear hB
    obtain ⟨j, hj, rfl, rfl, hb, hx⟩ := hrel
    by_cases hlt : j < n
    · go_wp2_with fail
      refine (markText_any (k + j) _ (by omega)).mono ?_
      rintro e w1 ⟨rfl, h1⟩
      replace hb := hb.ext h1
      replace hx := hx.next (ExtBut.of_ext h1)
      clear h1
      have hs := mkd_size cs k j
      obtain ⟨v, hv⟩ : ∃ v, w1.cell? ⟨g, j, none⟩ = some v := by
        rw [hb.cell]
        exact ⟨_, Array.getElem?_eq_getElem (by have := Hn.out; omega)⟩
      have hf := hb.frozen j
      have HB := Lib.hid (hb.set_ j (.string (markB (k + j))))
      have HX := Lib.hid (hx.set_ j (.string (markB (k + j))))
      clear hb hx hs
      go_wp2_with fail
      go_roundw
      case rel => exact ⟨j + 1, by omega, by go_num, by go_num, HB.out, HX.out⟩
      case measure => simp [intOf]; omega
    · obtain rfl : j = n := by omega
      go_wp2_with fail
      go_ret
      exact ⟨rfl, hb, hx⟩
set_option maxHeartbeats 1000000 in
set_option maxRecDepth 100000 in
theorem heldStringS_any (g n c k : Nat) (cs : Array Value) (w : World) (hB : Blk w g 9 (mkd cs k n)) (hn : n ≤ cs.size) (hl : n ≤ 1048576) (hk : k ≤ 1073741824) :
    Calls Try.prog 90 #[.slice (some ⟨g, 0, none⟩) n c, .int .i64 (k : Int)] w fun e w' => e = .returned (.int .i64 ((k + n : Nat) : Int)) ∧ Ext w w' := by
  have Hn := Lib.hid hn
  clear hn
  go_enter Try.func90, Try.ntmps90
  go_wp2_with fail
  go_loopw [1, 5] (fun q i wr => ∃ (j : Nat), j ≤ n ∧ i = .int .i64 j ∧ q = .int .i64 ((k + j : Nat) : Int) ∧ Ext w wr) (fun _ i _ => n - (intOf i).toNat)
  case atStart => exact ⟨0, Nat.zero_le _, rfl, rfl, Below.refl _ _⟩
  case round =>
    obtain ⟨j, hj, rfl, rfl, he⟩ := hrel
    by_cases hlt : j < n
    · have hb := hB.ext he
      have c0 : wr.cell? ⟨g, j, none⟩ = some (.string (markB (k + j))) := by rw [hb.cell]; exact mkd_at cs k n j hlt (by have := Hn.out; omega)
      obtain ⟨y, hy⟩ : ∃ y, y = markB (k + j) := ⟨_, rfl⟩
      have Hy := Lib.hid hy
      rw [← hy] at c0
      have hcell : ∀ w', Ext w w' → w'.cell? ⟨g, j, none⟩ = some (.string y) := fun w' h => by rw [(hB.ext h).cell, hy]; exact mkd_at cs k n j hlt (by have := Hn.out; omega)
      have HC := Lib.hid hcell
      clear hb hB hy hcell
      go_wp2_with fail
      go_region_held3 (fun w' => w'.cell? ⟨g, j, none⟩ = some (.string y) ∧ Ext w w')
        (first | exact ⟨c0, he.drew⟩ | (go_split_ands; exact ⟨HC.out _ (Ext.next (by assumption) h1), Ext.next (by assumption) h1⟩))
        (first | (go_at_call 51; refine (markText_any (k + j) _ (by omega)).mono ?_; rintro e w' ⟨he1, h1⟩; rw [← Hy.out] at he1; subst he1))
      all_goals
        go_split_ands
        have he2 : Ext w w' := by assumption
        go_wp2_with fail
        go_roundw
        case rel => exact ⟨j + 1, by omega, by go_num, by go_num, he2⟩
        case measure => simp [intOf]; omega
    · obtain rfl : j = n := by omega
      go_wp2_with fail
      go_ret
      exact ⟨rfl, he⟩
end Go.Proofs.Ytkcjhfidgnbdiaa
namespace Go.Proofs.Ytkcjhfidgnbdiaa
set_option linter.unusedSimpArgs false
open Go.RowKit
set_option linter.unusedVariables false

theorem implPreHash_any (n : Int) (d : PreD) (w : World) (hd : d.Ok) : Calls Try.prog 37 #[.int .i64 n, .agg #[.int .i64 d.tag, .string d.text]] w fun e w' => e = .returned (.tuple #[.string (digest n d.tag d.text), .bool (digestOk n d.tag d.text)]) ∧ Ext w w' := by
  obtain ⟨_, k1⟩ := hd
  have he := Lib.hid (Ext.new (Below.refl w.heap.size w) (.cells #[.int .i64 d.tag, .string d.text] 39))
  go_enter Try.func37, Try.ntmps37
  go_wp2_with fail
  refine (Digest_any n d.tag d.text _ k1).mono ?_
  rintro e w1 ⟨rfl, h1⟩
  have he2 := he.out.next h1
  go_wp2_with fail
  go_ret2
  exact ⟨rfl, he2⟩
def brokenB (n : Int) (a b : PreD) : Bool := digestOk n a.tag a.text && digestOk n b.tag b.text && ((digest n a.tag a.text).toList == (digest n b.tag b.text).toList) && !(a.eqb b)


end Go.Proofs.Ytkcjhfidgnbdiaa

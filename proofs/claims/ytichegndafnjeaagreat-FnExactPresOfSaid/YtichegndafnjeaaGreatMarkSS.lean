/-
  The laws' own functions at lists of strings: walks. No condition.
  markText: walk. No condition.
  markStringS, heldStringS: walks. No condition.
-/
import Derived.Test.YtichegndafnjeaaGreatMapStr
namespace Go.Proofs.YtichegndafnjeaaGreat
open Go.RowKit
set_option linter.unusedVariables false

theorem OwnS.reads {W w : World} {v : Value} {l : List ByteArray} (h : OwnS W w v l) : ∃ A c, v = .slice A l.length c ∧ Reads w w.heap.size 1 A l.length (svals l) := by
  obtain ⟨A, c, rfl, _⟩ := ownsRow_form h
  exact ⟨A, c, rfl, Reads.of_own h⟩
theorem svals_at {l : List ByteArray} {k : Nat} (hk : k < l.length) : (svals l)[k * 1 + 0]? = some (.string l[k]) := by
  simp [svals, List.getElem?_eq_getElem hk]
set_option maxHeartbeats 1000000 in
set_option maxRecDepth 100000 in
theorem eqStringS_same (A A' : Option Addr) (c c' : Nat) (l : List ByteArray) (w : World) (hr : Reads w w.heap.size 1 A l.length (svals l)) (hr' : Reads w w.heap.size 1 A' l.length (svals l)) (hl : l.length ≤ 1048576) :
    Calls Tryz.prog 26 #[.slice A l.length c, .slice A' l.length c'] w fun e w' => e = .returned (.bool true) ∧ Ext w w' := by
  go_enter Tryz.func26, Tryz.ntmps26
  go_wp2
  go_loopw [5] (fun i wr => ∃ (k : Nat), k ≤ l.length ∧ i = .int .i64 k ∧ Ext w wr) (fun i _ => l.length - (intOf i).toNat)
  case atStart => exact ⟨0, Nat.zero_le _, rfl, Below.refl _ _⟩
  case round =>
    obtain ⟨k, hk, rfl, he⟩ := hrel
    by_cases hlt : k < l.length
    · obtain ⟨b, off, rfl, hb, hc⟩ := (hr.below he).at_ (k := k) hlt
      obtain ⟨b', off', rfl, hb', hc'⟩ := (hr'.below he).at_ (k := k) hlt
      have c0 := hc 0 _ (svals_at hlt)
      have b0 := hc' 0 _ (svals_at hlt)
      rw [Nat.add_zero, Nat.mul_one] at c0 b0
      obtain ⟨x, hx⟩ : ∃ x, x = l[k] := ⟨_, rfl⟩
      rw [← hx] at c0 b0
      clear hc hc' hx
      have z0 : (0 : Int) ≤ (k : Int) := by omega
      have z1 : (k : Int) < (l.length : Int) := by omega
      go_wp2_with fail
      go_quiet (fail)
      go_wp2_with fail
      go_roundw
      case rel => exact ⟨k + 1, by omega, by go_num, he.drewN _⟩
      case measure => simp [intOf]; omega
    · go_wp2_with fail
      go_ret
      exact ⟨rfl, he⟩
end Go.Proofs.YtichegndafnjeaaGreat
namespace Go.Proofs.YtichegndafnjeaaGreat
open Go.RowKit
set_option linter.unusedVariables false

/-- The digits of a number ahead of a text. -/
def decB : Nat → Nat → ByteArray → ByteArray
  | 0, _, t => t
  | f + 1, k, t => if k = 0 then t else decB f (k / 10) (ofInts [48 + (k : Int) % 10] ++ t)
def markB (k : Nat) : ByteArray := if k = 0 then ⟨#[109, 48]⟩ else ⟨#[109]⟩ ++ decB k k ⟨#[]⟩
theorem decB_size : ∀ (f k : Nat) (t : ByteArray), k ≤ f → (decB f k t).size ≤ t.size + k
  | 0, k, t, h => by rw [decB]; omega
  | f + 1, k, t, h => by
    rw [decB]
    split
    · omega
    · have := decB_size f (k / 10) (ofInts [48 + (k : Int) % 10] ++ t) (by omega)
      rw [ByteArray.size_append, show (ofInts [48 + (k : Int) % 10]).size = 1 from rfl] at this
      omega
set_option maxHeartbeats 1000000 in
set_option maxRecDepth 100000 in
theorem markText_any (n : Nat) (w : World) (hn : n ≤ 1099511627776) : Calls Tryz.prog 55 #[.int .i64 (n : Int)] w fun e w' => e = .returned (.string (markB n)) ∧ Ext w w' := by
  by_cases h0 : n = 0
  · subst h0
    go_enter Tryz.func55, Tryz.ntmps55
    go_wp2_with fail
    go_ret
    exact ⟨rfl, Below.refl _ _⟩
  have E := Lib.hid (show markB n = ⟨#[109]⟩ ++ decB n n ⟨#[]⟩ by rw [markB, if_neg h0])
  go_enter Tryz.func55, Tryz.ntmps55
  go_wp2_with fail
  go_loopw [0, 3] (fun sn st wr => ∃ (k f : Nat) (t : ByteArray), sn = .int .i64 k ∧ st = .string t ∧ k ≤ f ∧ t.size + k ≤ n ∧ Hid (decB f k t = decB n n ⟨#[]⟩) ∧ Ext w wr) (fun sn _ _ => (intOf sn).toNat)
  case atStart => exact ⟨n, n, ⟨#[]⟩, rfl, rfl, Nat.le_refl _, by show 0 + n ≤ n; omega, Lib.hid rfl, Below.refl _ _⟩
  case round =>
    obtain ⟨k, f, t, rfl, rfl, hkf, hs, eq, he⟩ := hrel
    by_cases hlt : 0 < k
    · have hconv := conv_bytes [48 + (k : Int) % 10] (by intro x hx; simp only [List.mem_singleton] at hx; subst hx; omega) wr
      simp only [List.length_cons, List.length_nil, Nat.zero_add, List.map_cons, List.map_nil] at hconv
      obtain ⟨d, hd⟩ : ∃ d, d = ofInts [48 + (k : Int) % 10] := ⟨_, rfl⟩
      have hz : d.size = 1 := by rw [hd]; rfl
      rw [← hd] at hconv
      have E1 : Hid (decB (f - 1) (k / 10) (d ++ t) = decB n n ⟨#[]⟩) := Lib.hid (by
        rw [← eq.out, hd]
        obtain ⟨g, rfl⟩ : ∃ g, f = g + 1 := ⟨f - 1, by omega⟩
        rw [decB, if_neg (by omega)]; rfl)
      have E2 : (d ++ t).size + k / 10 ≤ n := by rw [ByteArray.size_append]; omega
      have n1 : ¬ 9223372036854775807 < d.size + t.size := by omega
      clear hd
      go_wp2_with fail
      go_roundw
      case rel => exact ⟨k / 10, f - 1, _, by go_num, rfl, by omega, E2, E1, he.new _⟩
      case measure => simp [intOf]; omega
    · have E1 : Hid (t = decB n n ⟨#[]⟩) := Lib.hid (by
        rw [← eq.out]
        obtain rfl : k = 0 := by omega
        cases f <;> simp [decB])
      have n1 : ¬ 9223372036854775807 < 1 + t.size := by omega
      go_wp2_with fail
      go_ret
      exact ⟨ret_str (by rw [E.out, ← E1.out]), he⟩
end Go.Proofs.YtichegndafnjeaaGreat
namespace Go.Proofs.YtichegndafnjeaaGreat
open Go.RowKit
set_option linter.unusedVariables false

def mkd (cs : Array Value) (k : Nat) : Nat → Array Value
  | 0 => cs
  | i + 1 => (mkd cs k i).setIfInBounds i (.string (markB (k + i)))
theorem mkd_size (cs : Array Value) (k : Nat) : ∀ i, (mkd cs k i).size = cs.size
  | 0 => rfl
  | i + 1 => by rw [mkd, Array.size_setIfInBounds, mkd_size cs k i]
theorem mkd_at (cs : Array Value) (k : Nat) : ∀ (i j : Nat), j < i → j < cs.size → (mkd cs k i)[j]? = some (.string (markB (k + j)))
  | 0, j, h, _ => absurd h (by omega)
  | i + 1, j, h, hs => by
    rw [mkd, Array.getElem?_setIfInBounds]
    split
    · rename_i e; subst e; rw [if_pos (by rw [mkd_size]; exact hs)]
    · exact mkd_at cs k i j (by omega) hs
set_option maxHeartbeats 1000000 in
set_option maxRecDepth 100000 in
theorem markStringS_any (g n c k : Nat) (cs : Array Value) (w : World) (hB : Blk w g 9 cs) (hn : n ≤ cs.size) (hl : n ≤ 1048576) (hk : k ≤ 1073741824) :
    Calls Tryz.prog 27 #[.slice (some ⟨g, 0, none⟩) n c, .int .i64 (k : Int)] w fun e w' => e = .returned (.int .i64 ((k + n : Nat) : Int)) ∧ Blk w' g 9 (mkd cs k n) ∧ ExtBut g w w' := by
  have Hn := Lib.hid hn
  clear hn
  go_enter Tryz.func27, Tryz.ntmps27
  go_wp2_with fail
  go_loopw [1, 5] (fun q i wr => ∃ (j : Nat), j ≤ n ∧ i = .int .i64 j ∧ q = .int .i64 ((k + j : Nat) : Int) ∧ Blk wr g 9 (mkd cs k j) ∧ ExtBut g w wr) (fun _ i _ => n - (intOf i).toNat)
  case atStart => exact ⟨0, Nat.zero_le _, rfl, rfl, hB, ExtBut.refl g w⟩
  case round =>
    clear hB
    obtain ⟨j, hj, rfl, rfl, hb, hx⟩ := hrel
    by_cases hlt : j < n
    · go_wp2_with fail
      refine (markText_any (k + j) _ (by omega)).mono ?_
      rintro e w1 ⟨rfl, h1⟩
      replace hb := hb.ext h1
      replace hx := hx.next (ExtBut.of_ext h1)
      clear h1
      have hs := mkd_size cs k j
      obtain ⟨v, hv⟩ : ∃ v, w1.cell? ⟨g, j, none⟩ = some v := by
        rw [hb.cell]
        exact ⟨_, Array.getElem?_eq_getElem (by have := Hn.out; omega)⟩
      have hf := hb.frozen j
      have HB := Lib.hid (hb.set_ j (.string (markB (k + j))))
      have HX := Lib.hid (hx.set_ j (.string (markB (k + j))))
      clear hb hx hs
      go_wp2_with fail
      go_roundw
      case rel => exact ⟨j + 1, by omega, by go_num, by go_num, HB.out, HX.out⟩
      case measure => simp [intOf]; omega
    · obtain rfl : j = n := by omega
      go_wp2_with fail
      go_ret
      exact ⟨rfl, hb, hx⟩
set_option maxHeartbeats 1000000 in
set_option maxRecDepth 100000 in
theorem heldStringS_any (g n c k : Nat) (cs : Array Value) (w : World) (hB : Blk w g 9 (mkd cs k n)) (hn : n ≤ cs.size) (hl : n ≤ 1048576) (hk : k ≤ 1073741824) :
    Calls Tryz.prog 134 #[.slice (some ⟨g, 0, none⟩) n c, .int .i64 (k : Int)] w fun e w' => e = .returned (.int .i64 ((k + n : Nat) : Int)) ∧ Ext w w' := by
  have Hn := Lib.hid hn
  clear hn
  go_enter Tryz.func134, Tryz.ntmps134
  go_wp2_with fail
  go_loopw [1, 5] (fun q i wr => ∃ (j : Nat), j ≤ n ∧ i = .int .i64 j ∧ q = .int .i64 ((k + j : Nat) : Int) ∧ Ext w wr) (fun _ i _ => n - (intOf i).toNat)
  case atStart => exact ⟨0, Nat.zero_le _, rfl, rfl, Below.refl _ _⟩
  case round =>
    obtain ⟨j, hj, rfl, rfl, he⟩ := hrel
    by_cases hlt : j < n
    · have hb := hB.ext he
      have c0 : wr.cell? ⟨g, j, none⟩ = some (.string (markB (k + j))) := by rw [hb.cell]; exact mkd_at cs k n j hlt (by have := Hn.out; omega)
      obtain ⟨y, hy⟩ : ∃ y, y = markB (k + j) := ⟨_, rfl⟩
      have Hy := Lib.hid hy
      rw [← hy] at c0
      have hcell : ∀ w', Ext w w' → w'.cell? ⟨g, j, none⟩ = some (.string y) := fun w' h => by rw [(hB.ext h).cell, hy]; exact mkd_at cs k n j hlt (by have := Hn.out; omega)
      have HC := Lib.hid hcell
      clear hb hB hy hcell
      go_wp2_with fail
      go_region_held3 (fun w' => w'.cell? ⟨g, j, none⟩ = some (.string y) ∧ Ext w w')
        (first | exact ⟨c0, he.drew⟩ | (go_split_ands; exact ⟨HC.out _ (Ext.next (by assumption) h1), Ext.next (by assumption) h1⟩))
        (first | (go_at_call 55; refine (markText_any (k + j) _ (by omega)).mono ?_; rintro e w' ⟨he1, h1⟩; rw [← Hy.out] at he1; subst he1))
      all_goals
        go_split_ands
        have he2 : Ext w w' := by assumption
        go_wp2_with fail
        go_roundw
        case rel => exact ⟨j + 1, by omega, by go_num, by go_num, he2⟩
        case measure => simp [intOf]; omega
    · obtain rfl : j = n := by omega
      go_wp2_with fail
      go_ret
      exact ⟨rfl, he⟩
end Go.Proofs.YtichegndafnjeaaGreat

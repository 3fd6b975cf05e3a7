/-
  MarkOwnWrite; MarkSS; OwnMark; MarkRowB: No condition.
-/
import Derived.Test.YtlgdghpnfclgpaaGreatMarkWrite
import Derived.Test.YtlgdghpnfclgpaaGreatAppSrc
import Derived.Test.YtlgdghpnfclgpaaGreatMarkEntry
import Derived.Test.YtlgdghpnfclgpaaGreatDisk0
namespace Go.Proofs.YtlgdghpnfclgpaaGreat
set_option linter.unusedSimpArgs false
open Go.RowKit
set_option linter.unusedVariables false
theorem markWriteS_nil (k : Int) (w : World) : Calls Tryz.prog 28 #[.slice none 0 0, .int .i64 k] w fun e w' => e = .returned (.int .i64 k) ∧ Ext w w' := by
 go_enter Tryz.func28, Tryz.ntmps28
 go_wp2_with fail
 refine wp_loop_rounds 1 ?_
 rw [rounds_succ]
 go_wp2_with fail
 go_ret
 exact ⟨rfl, Below.refl _ _⟩
set_option maxHeartbeats 1000000
set_option maxRecDepth 100000
def mkd (cs : Array Value) (k : Nat) : Nat → Array Value
 | 0 => cs
 | i + 1 => (mkd cs k i).setIfInBounds i (.string (markB (k + i)))
theorem mkd_size (cs : Array Value) (k : Nat) : ∀ i, (mkd cs k i).size = cs.size
 | 0 => rfl
 | i + 1 => by rw [mkd, Array.size_setIfInBounds, mkd_size cs k i]
theorem mkd_at (cs : Array Value) (k : Nat) : ∀ (i j : Nat), j < i → j < cs.size → (mkd cs k i)[j]? = some (.string (markB (k + j)))
 | 0, j, h, _ => absurd h (by omega)
 | i + 1, j, h, hs => by
   rw [mkd, Array.getElem?_setIfInBounds]
   split
   · rename_i e; subst e; rw [if_pos (by rw [mkd_size]; exact hs)]
   · exact mkd_at cs k i j (by omega) hs
theorem markStringS_any (g n c k : Nat) (cs : Array Value) (w : World) (hB : Blk w g 9 cs) (hn : n ≤ cs.size) (hl : n ≤ 1048576) (hk : k ≤ 1073741824) :
 Calls Tryz.prog 22 #[.slice (some ⟨g, 0, none⟩) n c, .int .i64 (k : Int)] w fun e w' => e = .returned (.int .i64 ((k + n : Nat) : Int)) ∧ Blk w' g 9 (mkd cs k n) ∧ ExtBut g w w' := by
 have Hn := hU hn
 clear hn
 go_enter Tryz.func22, Tryz.ntmps22
 go_wp2_with fail
 go_loopw [1, 5] (fun q i wr => ∃ (j : Nat), j ≤ n ∧ i = .int .i64 j ∧ q = .int .i64 ((k + j : Nat) : Int) ∧ Blk wr g 9 (mkd cs k j) ∧ ExtBut g w wr) (fun _ i _ => n - (intOf i).toNat)
 case atStart => exact ⟨0, Nat.zero_le _, rfl, rfl, hB, ExtBut.refl g w⟩
 case round =>
  clear hB
  obtain ⟨j, hj, rfl, rfl, hb, hx⟩ := hrel
  by_cases hlt : j < n
  · go_wp2_with fail
    refine (markText_any (k + j) _ (by omega)).mono ?_
    rintro e w1 ⟨rfl, h1⟩
    replace hb := hb.ext h1
    replace hx := hx.next (ExtBut.of_ext h1)
    clear h1
    have hs := mkd_size cs k j
    obtain ⟨v, hv⟩ : ∃ v, w1.cell? ⟨g, j, none⟩ = some v := by
     rw [hb.cell]
     exact ⟨_, Array.getElem?_eq_getElem (by have := Hn.out; omega)⟩
    have hf := hb.frozen j
    have HB := hU (hb.set_ j (.string (markB (k + j))))
    have HX := hU (hx.set_ j (.string (markB (k + j))))
    clear hb hx hs
    go_wp2_with fail
    go_roundw
    case rel => exact ⟨j + 1, by omega, by go_num, by go_num, HB.out, HX.out⟩
    case measure => simp [intOf]; omega
  · obtain rfl : j = n := by omega
    go_wp2_with fail
    go_ret
    exact ⟨rfl, hb, hx⟩
theorem heldStringS_any (g n c k : Nat) (cs : Array Value) (w : World) (hB : Blk w g 9 (mkd cs k n)) (hn : n ≤ cs.size) (hl : n ≤ 1048576) (hk : k ≤ 1073741824) :
 Calls Tryz.prog 23 #[.slice (some ⟨g, 0, none⟩) n c, .int .i64 (k : Int)] w fun e w' => e = .returned (.int .i64 ((k + n : Nat) : Int)) ∧ Ext w w' := by
 have Hn := hU hn
 clear hn
 go_enter Tryz.func23, Tryz.ntmps23
 go_wp2_with fail
 go_loopw [1, 5] (fun q i wr => ∃ (j : Nat), j ≤ n ∧ i = .int .i64 j ∧ q = .int .i64 ((k + j : Nat) : Int) ∧ Ext w wr) (fun _ i _ => n - (intOf i).toNat)
 case atStart => exact ⟨0, Nat.zero_le _, rfl, rfl, Below.refl _ _⟩
 case round =>
  obtain ⟨j, hj, rfl, rfl, he⟩ := hrel
  by_cases hlt : j < n
  · have hb := hB.ext he
    have c0 : wr.cell? ⟨g, j, none⟩ = some (.string (markB (k + j))) := by rw [hb.cell]; exact mkd_at cs k n j hlt (by have := Hn.out; omega)
    obtain ⟨y, hy⟩ : ∃ y, y = markB (k + j) := ⟨_, rfl⟩
    have Hy := hU hy
    rw [← hy] at c0
    have hcell : ∀ w', Ext w w' → w'.cell? ⟨g, j, none⟩ = some (.string y) := fun w' h => by rw [(hB.ext h).cell, hy]; exact mkd_at cs k n j hlt (by have := Hn.out; omega)
    have HC := hU hcell
    clear hb hB hy hcell
    go_wp2_with fail
    go_region_held3 (fun w' => w'.cell? ⟨g, j, none⟩ = some (.string y) ∧ Ext w w')
     (first | exact ⟨c0, he.drew⟩ | (go_split_ands; exact ⟨HC.out _ (Ext.next (by assumption) h1), Ext.next (by assumption) h1⟩))
     (first | (go_at_call 61; refine (markText_any (k + j) _ (by omega)).mono ?_; rintro e w' ⟨he1, h1⟩; rw [← Hy.out] at he1; subst he1))
    all_goals
     go_split_ands
     have he2 : Ext w w' := by assumption
     go_wp2_with fail
     go_roundw
     case rel => exact ⟨j + 1, by omega, by go_num, by go_num, he2⟩
     case measure => simp [intOf]; omega
  · obtain rfl : j = n := by omega
    go_wp2_with fail
    go_ret
    exact ⟨rfl, he⟩
def Marked (w : World) (v : Value) (n : Nat) : Prop := (v = .slice none 0 0 ∧ n = 0) ∨ ∃ g c cs, v = .slice (some ⟨g, 0, none⟩) n c ∧ Blk w g 9 (mkd cs 1 n) ∧ n ≤ cs.size
theorem Marked.ext {w w' : World} {v : Value} {n : Nat} (h : Marked w v n) (he : Ext w w') : Marked w' v n := by
 rcases h with h | ⟨g, c, cs, h1, h2, h3⟩
 · exact .inl h
 · exact .inr ⟨g, c, cs, h1, h2.ext he, h3⟩
theorem markStringS_nil (k : Int) (w : World) : Calls Tryz.prog 22 #[.slice none 0 0, .int .i64 k] w fun e w' => e = .returned (.int .i64 k) ∧ Ext w w' := by
 go_enter Tryz.func22, Tryz.ntmps22
 go_wp2_with fail
 refine wp_loop_rounds 1 ?_
 rw [rounds_succ]
 go_wp2_with fail
 go_ret
 exact ⟨rfl, Below.refl _ _⟩
theorem heldStringS_nil (k : Int) (w : World) : Calls Tryz.prog 23 #[.slice none 0 0, .int .i64 k] w fun e w' => e = .returned (.int .i64 k) ∧ Ext w w' := by
 go_enter Tryz.func23, Tryz.ntmps23
 go_wp2_with fail
 refine wp_loop_rounds 1 ?_
 rw [rounds_succ]
 go_wp2_with fail
 go_ret
 exact ⟨rfl, Below.refl _ _⟩
def InBlock (v : Value) : Nat → Prop := fun b => v.ownBlock = some b
theorem slf_row {α : Type} {f : α → List Value} {size m c g : Nat} {l : List α} {cs : Array Value} {t : TypeId} {w : World} (hf : ∀ a, (f a).length = size) (hl : l.length = m) (hm : m ≤ c) (hc : c ≤ maxLen) (hb : Blk w g t (rowAt f size l cs m)) : SlF (InBlock (.slice (some ⟨g, 0, none⟩) m c)) f size w (some ⟨g, 0, none⟩) l c := by
 subst hl
 exact ⟨hm, hc, rowAt_reads hf hb, fun _ a e => by cases e; rfl⟩
theorem markEntryS_row {K m k : Nat} {w : World} {v : Value} {a : List EntryD} (h : w.ownsRow K 46 5 v m (a.flatMap EntryD.cells)) (hl : m ≤ 1048576) (hk : k ≤ 1099511627) :
 Calls Tryz.prog 116 #[v, .int .i64 (k : Int)] w fun e w' => e = .returned (.int .i64 ((k + m * 5 : Nat) : Int)) ∧ (∃ A c, v = .slice A m c ∧ SlF (InBlock v) EntryD.cells 5 w' A (EntryD.mkL k m) c) ∧ Frm (InBlock v) w w' := by
 rcases h.2 with ⟨rfl, rfl⟩ | ⟨g, cap, cur, rfl, hg, hh, hnc, hm, hs, ht⟩
 · refine (markEntryS_nil _ w).mono ?_
   rintro e w' ⟨rfl, h3⟩
   exact ⟨by simp, ⟨none, 0, rfl, by simpa [EntryD.mkL] using SlF.nil _ _ _ _⟩, Frm.of_ext h3⟩
 · refine (markEntryS_any g m cap k cur w hh (by rw [hs]; exact Nat.mul_le_mul_right _ hnc) hl hk).mono ?_
   rintro e w' ⟨rfl, h3, h4⟩
   exact ⟨rfl, ⟨_, _, rfl, slf_row EntryD.cells_length (EntryD.mkL_len _ _) hnc hm h3⟩, Frm.of_grown h4 (fun b hb => by cases hb; rfl)⟩
theorem markReceiptS_row {K m k : Nat} {w : World} {v : Value} {a : List ReceiptD} (h : w.ownsRow K 77 3 v m (a.flatMap ReceiptD.cells)) (hl : m ≤ 1048576) (hk : k ≤ 1099511627) :
 Calls Tryz.prog 58 #[v, .int .i64 (k : Int)] w fun e w' => e = .returned (.int .i64 ((k + m * 3 : Nat) : Int)) ∧ (∃ A c, v = .slice A m c ∧ SlF (InBlock v) ReceiptD.cells 3 w' A (ReceiptD.mkL k m) c) ∧ Frm (InBlock v) w w' := by
 rcases h.2 with ⟨rfl, rfl⟩ | ⟨g, cap, cur, rfl, hg, hh, hnc, hm, hs, ht⟩
 · refine (markReceiptS_nil _ w).mono ?_
   rintro e w' ⟨rfl, h3⟩
   exact ⟨by simp, ⟨none, 0, rfl, by simpa [ReceiptD.mkL] using SlF.nil _ _ _ _⟩, Frm.of_ext h3⟩
 · refine (markReceiptS_any g m cap k cur w hh (by rw [hs]; exact Nat.mul_le_mul_right _ hnc) hl hk).mono ?_
   rintro e w' ⟨rfl, h3, h4⟩
   exact ⟨rfl, ⟨_, _, rfl, slf_row ReceiptD.cells_length (ReceiptD.mkL_len _ _) hnc hm h3⟩, Frm.of_grown h4 (fun b hb => by cases hb; rfl)⟩
theorem markHeadS_row {K m k : Nat} {w : World} {v : Value} {a : List HeadD} (h : w.ownsRow K 55 5 v m (a.flatMap HeadD.cells)) (hl : m ≤ 1048576) (hk : k ≤ 1099511627) :
 Calls Tryz.prog 59 #[v, .int .i64 (k : Int)] w fun e w' => e = .returned (.int .i64 ((k + m * 5 : Nat) : Int)) ∧ (∃ A c, v = .slice A m c ∧ SlF (InBlock v) HeadD.cells 5 w' A (HeadD.mkL k m) c) ∧ Frm (InBlock v) w w' := by
 rcases h.2 with ⟨rfl, rfl⟩ | ⟨g, cap, cur, rfl, hg, hh, hnc, hm, hs, ht⟩
 · refine (markHeadS_nil _ w).mono ?_
   rintro e w' ⟨rfl, h3⟩
   exact ⟨by simp, ⟨none, 0, rfl, by simpa [HeadD.mkL] using SlF.nil _ _ _ _⟩, Frm.of_ext h3⟩
 · refine (markHeadS_any g m cap k cur w hh (by rw [hs]; exact Nat.mul_le_mul_right _ hnc) hl hk).mono ?_
   rintro e w' ⟨rfl, h3, h4⟩
   exact ⟨rfl, ⟨_, _, rfl, slf_row HeadD.cells_length (HeadD.mkL_len _ _) hnc hm h3⟩, Frm.of_grown h4 (fun b hb => by cases hb; rfl)⟩
theorem markWriteS_row {K m k : Nat} {w : World} {v : Value} {a : List WriteD} (h : w.ownsRow K 112 3 v m (a.flatMap WriteD.cells)) (hl : m ≤ 1048576) (hk : k ≤ 1099511627) :
 Calls Tryz.prog 28 #[v, .int .i64 (k : Int)] w fun e w' => e = .returned (.int .i64 ((k + m * 3 : Nat) : Int)) ∧ (∃ A c, v = .slice A m c ∧ SlF (InBlock v) WriteD.cells 3 w' A (WriteD.mkL k m) c) ∧ Frm (InBlock v) w w' := by
 rcases h.2 with ⟨rfl, rfl⟩ | ⟨g, cap, cur, rfl, hg, hh, hnc, hm, hs, ht⟩
 · refine (markWriteS_nil _ w).mono ?_
   rintro e w' ⟨rfl, h3⟩
   exact ⟨by simp, ⟨none, 0, rfl, by simpa [WriteD.mkL] using SlF.nil _ _ _ _⟩, Frm.of_ext h3⟩
 · refine (markWriteS_any g m cap k cur w hh (by rw [hs]; exact Nat.mul_le_mul_right _ hnc) hl hk).mono ?_
   rintro e w' ⟨rfl, h3, h4⟩
   exact ⟨rfl, ⟨_, _, rfl, slf_row WriteD.cells_length (WriteD.mkL_len _ _) hnc hm h3⟩, Frm.of_grown h4 (fun b hb => by cases hb; rfl)⟩
def SMk (w : World) (v : Value) (k n : Nat) : Prop := (v = .slice none 0 0 ∧ n = 0) ∨ ∃ g c cs, v = .slice (some ⟨g, 0, none⟩) n c ∧ Blk w g 9 (mkd cs k n) ∧ n ≤ cs.size
theorem SMk.ext {w w' : World} {v : Value} {k n : Nat} (h : SMk w v k n) (he : Ext w w') : SMk w' v k n := by
 rcases h with h | ⟨g, c, cs, h1, h2, h3⟩
 · exact .inl h
 · exact .inr ⟨g, c, cs, h1, h2.ext he, h3⟩
theorem SMk.frm {w w' : World} {v : Value} {k n : Nat} {X : Nat → Prop} (h : SMk w v k n) (he : Frm X w w') (hX : ∀ b, v.ownBlock = some b → ¬ X b) : SMk w' v k n := by
 rcases h with h | ⟨g, c, cs, rfl, h2, h3⟩
 · exact .inl h
 · exact .inr ⟨g, c, cs, rfl, he.blk h2 (hX g rfl), h3⟩
theorem markStringS_row {K m k : Nat} {w : World} {v : Value} {a : List Value} (h : w.ownsRow K 9 1 v m a) (hl : m ≤ 1048576) (hk : k ≤ 1073741824) :
 Calls Tryz.prog 22 #[v, .int .i64 (k : Int)] w fun e w' => e = .returned (.int .i64 ((k + m : Nat) : Int)) ∧ SMk w' v k m ∧ Frm (InBlock v) w w' := by
 rcases h.2 with ⟨rfl, rfl⟩ | ⟨g, cap, cur, rfl, hg, hh, hnc, hm, hs, ht⟩
 · refine (markStringS_nil _ w).mono ?_
   rintro e w' ⟨rfl, h3⟩
   exact ⟨by simp, .inl ⟨rfl, rfl⟩, Frm.of_ext h3⟩
 · have hn : m ≤ cur.size := by rw [hs]; omega
   refine (markStringS_any g m cap k cur w hh hn hl hk).mono ?_
   rintro e w' ⟨rfl, h3, h4⟩
   exact ⟨rfl, .inr ⟨g, cap, cur, rfl, h3, hn⟩, Frm.of_grown h4 (fun b hb => by cases hb; rfl)⟩
theorem heldStringS_row {m k : Nat} {w : World} {v : Value} (h : SMk w v k m) (hl : m ≤ 1048576) (hk : k ≤ 1073741824) :
 Calls Tryz.prog 23 #[v, .int .i64 (k : Int)] w fun e w' => e = .returned (.int .i64 ((k + m : Nat) : Int)) ∧ Ext w w' := by
 rcases h with ⟨rfl, rfl⟩ | ⟨g, c, cs, rfl, h2, h3⟩
 · exact heldStringS_nil _ w
 · exact heldStringS_any g m c k cs w h2 h3 hl hk
end Go.Proofs.YtlgdghpnfclgpaaGreat

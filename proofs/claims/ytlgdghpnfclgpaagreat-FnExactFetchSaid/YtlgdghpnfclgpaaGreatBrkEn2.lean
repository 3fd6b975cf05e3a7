/-
  MarkSS; OwnMark; MarkRowB; BrkEn2: No condition.
-/
import Derived.Test.YtlgdghpnfclgpaaGreatMarkOwnWrite
import Derived.Test.YtlgdghpnfclgpaaGreatDisk0
import Derived.Test.YtlgdghpnfclgpaaGreatCopyC
namespace Go.Proofs.YtlgdghpnfclgpaaGreat
set_option maxHeartbeats 1000000
set_option maxRecDepth 100000
set_option linter.unusedSimpArgs false
open Go.RowKit
set_option linter.unusedVariables false
def mkd (cs : Array Value) (k : Nat) : Nat → Array Value
 | 0 => cs
 | i + 1 => (mkd cs k i).setIfInBounds i (.string (markB (k + i)))
theorem mkd_size (cs : Array Value) (k : Nat) : ∀ i, (mkd cs k i).size = cs.size
 | 0 => rfl
 | i + 1 => by rw [mkd, Array.size_setIfInBounds, mkd_size cs k i]
theorem mkd_at (cs : Array Value) (k : Nat) : ∀ (i j : Nat), j < i → j < cs.size → (mkd cs k i)[j]? = some (.string (markB (k + j)))
 | 0, j, h, _ => absurd h (by omega)
 | i + 1, j, h, hs => by
   rw [mkd, Array.getElem?_setIfInBounds]
   split
   · rename_i e; subst e; rw [if_pos (by rw [mkd_size]; exact hs)]
   · exact mkd_at cs k i j (by omega) hs
theorem markStringS_any (g n c k : Nat) (cs : Array Value) (w : World) (hB : Blk w g 9 cs) (hn : n ≤ cs.size) (hl : n ≤ 1048576) (hk : k ≤ 1073741824) :
 Calls Tryz.prog 22 #[.slice (some ⟨g, 0, none⟩) n c, .int .i64 (k : Int)] w fun e w' => e = .returned (.int .i64 ((k + n : Nat) : Int)) ∧ Blk w' g 9 (mkd cs k n) ∧ ExtBut g w w' := by
 have Hn := hU hn
 clear hn
 go_enter Tryz.func22, Tryz.ntmps22
 go_wp2_with fail
 go_loopw [1, 5] (fun q i wr => ∃ (j : Nat), j ≤ n ∧ i = .int .i64 j ∧ q = .int .i64 ((k + j : Nat) : Int) ∧ Blk wr g 9 (mkd cs k j) ∧ ExtBut g w wr) (fun _ i _ => n - (intOf i).toNat)
 case atStart => exact ⟨0, Nat.zero_le _, rfl, rfl, hB, ExtBut.refl g w⟩
 case round =>
  clear hB
  obtain ⟨j, hj, rfl, rfl, hb, hx⟩ := hrel
  by_cases hlt : j < n
  · go_wp2_with fail
    refine (markText_any (k + j) _ (by omega)).mono ?_
    rintro e w1 ⟨rfl, h1⟩
    replace hb := hb.ext h1
    replace hx := hx.next (ExtBut.of_ext h1)
    clear h1
    have hs := mkd_size cs k j
    obtain ⟨v, hv⟩ : ∃ v, w1.cell? ⟨g, j, none⟩ = some v := by
     rw [hb.cell]
     exact ⟨_, Array.getElem?_eq_getElem (by have := Hn.out; omega)⟩
    have hf := hb.frozen j
    have HB := hU (hb.set_ j (.string (markB (k + j))))
    have HX := hU (hx.set_ j (.string (markB (k + j))))
    clear hb hx hs
    go_wp2_with fail
    go_roundw
    case rel => exact ⟨j + 1, by omega, by go_num, by go_num, HB.out, HX.out⟩
    case measure => simp [intOf]; omega
  · obtain rfl : j = n := by omega
    go_wp2_with fail
    go_ret
    exact ⟨rfl, hb, hx⟩
theorem heldStringS_any (g n c k : Nat) (cs : Array Value) (w : World) (hB : Blk w g 9 (mkd cs k n)) (hn : n ≤ cs.size) (hl : n ≤ 1048576) (hk : k ≤ 1073741824) :
 Calls Tryz.prog 23 #[.slice (some ⟨g, 0, none⟩) n c, .int .i64 (k : Int)] w fun e w' => e = .returned (.int .i64 ((k + n : Nat) : Int)) ∧ Ext w w' := by
 have Hn := hU hn
 clear hn
 go_enter Tryz.func23, Tryz.ntmps23
 go_wp2_with fail
 go_loopw [1, 5] (fun q i wr => ∃ (j : Nat), j ≤ n ∧ i = .int .i64 j ∧ q = .int .i64 ((k + j : Nat) : Int) ∧ Ext w wr) (fun _ i _ => n - (intOf i).toNat)
 case atStart => exact ⟨0, Nat.zero_le _, rfl, rfl, Below.refl _ _⟩
 case round =>
  obtain ⟨j, hj, rfl, rfl, he⟩ := hrel
  by_cases hlt : j < n
  · have hb := hB.ext he
    have c0 : wr.cell? ⟨g, j, none⟩ = some (.string (markB (k + j))) := by rw [hb.cell]; exact mkd_at cs k n j hlt (by have := Hn.out; omega)
    obtain ⟨y, hy⟩ : ∃ y, y = markB (k + j) := ⟨_, rfl⟩
    have Hy := hU hy
    rw [← hy] at c0
    have hcell : ∀ w', Ext w w' → w'.cell? ⟨g, j, none⟩ = some (.string y) := fun w' h => by rw [(hB.ext h).cell, hy]; exact mkd_at cs k n j hlt (by have := Hn.out; omega)
    have HC := hU hcell
    clear hb hB hy hcell
    go_wp2_with fail
    go_region_held3 (fun w' => w'.cell? ⟨g, j, none⟩ = some (.string y) ∧ Ext w w')
     (first | exact ⟨c0, he.drew⟩ | (go_split_ands; exact ⟨HC.out _ (Ext.next (by assumption) h1), Ext.next (by assumption) h1⟩))
     (first | (go_at_call 61; refine (markText_any (k + j) _ (by omega)).mono ?_; rintro e w' ⟨he1, h1⟩; rw [← Hy.out] at he1; subst he1))
    all_goals
     go_split_ands
     have he2 : Ext w w' := by assumption
     go_wp2_with fail
     go_roundw
     case rel => exact ⟨j + 1, by omega, by go_num, by go_num, he2⟩
     case measure => simp [intOf]; omega
  · obtain rfl : j = n := by omega
    go_wp2_with fail
    go_ret
    exact ⟨rfl, he⟩
def Marked (w : World) (v : Value) (n : Nat) : Prop := (v = .slice none 0 0 ∧ n = 0) ∨ ∃ g c cs, v = .slice (some ⟨g, 0, none⟩) n c ∧ Blk w g 9 (mkd cs 1 n) ∧ n ≤ cs.size
theorem Marked.ext {w w' : World} {v : Value} {n : Nat} (h : Marked w v n) (he : Ext w w') : Marked w' v n := by
 rcases h with h | ⟨g, c, cs, h1, h2, h3⟩
 · exact .inl h
 · exact .inr ⟨g, c, cs, h1, h2.ext he, h3⟩
theorem markStringS_nil (k : Int) (w : World) : Calls Tryz.prog 22 #[.slice none 0 0, .int .i64 k] w fun e w' => e = .returned (.int .i64 k) ∧ Ext w w' := by
 go_enter Tryz.func22, Tryz.ntmps22
 go_wp2_with fail
 refine wp_loop_rounds 1 ?_
 rw [rounds_succ]
 go_wp2_with fail
 go_ret
 exact ⟨rfl, Below.refl _ _⟩
theorem heldStringS_nil (k : Int) (w : World) : Calls Tryz.prog 23 #[.slice none 0 0, .int .i64 k] w fun e w' => e = .returned (.int .i64 k) ∧ Ext w w' := by
 go_enter Tryz.func23, Tryz.ntmps23
 go_wp2_with fail
 refine wp_loop_rounds 1 ?_
 rw [rounds_succ]
 go_wp2_with fail
 go_ret
 exact ⟨rfl, Below.refl _ _⟩
def InBlock (v : Value) : Nat → Prop := fun b => v.ownBlock = some b
theorem slf_row {α : Type} {f : α → List Value} {size m c g : Nat} {l : List α} {cs : Array Value} {t : TypeId} {w : World} (hf : ∀ a, (f a).length = size) (hl : l.length = m) (hm : m ≤ c) (hc : c ≤ maxLen) (hb : Blk w g t (rowAt f size l cs m)) : SlF (InBlock (.slice (some ⟨g, 0, none⟩) m c)) f size w (some ⟨g, 0, none⟩) l c := by
 subst hl
 exact ⟨hm, hc, rowAt_reads hf hb, fun _ a e => by cases e; rfl⟩
theorem markEntryS_row {K m k : Nat} {w : World} {v : Value} {a : List EntryD} (h : w.ownsRow K 46 5 v m (a.flatMap EntryD.cells)) (hl : m ≤ 1048576) (hk : k ≤ 1099511627) :
 Calls Tryz.prog 116 #[v, .int .i64 (k : Int)] w fun e w' => e = .returned (.int .i64 ((k + m * 5 : Nat) : Int)) ∧ (∃ A c, v = .slice A m c ∧ SlF (InBlock v) EntryD.cells 5 w' A (EntryD.mkL k m) c) ∧ Frm (InBlock v) w w' := by
 rcases h.2 with ⟨rfl, rfl⟩ | ⟨g, cap, cur, rfl, hg, hh, hnc, hm, hs, ht⟩
 · refine (markEntryS_nil _ w).mono ?_
   rintro e w' ⟨rfl, h3⟩
   exact ⟨by simp, ⟨none, 0, rfl, by simpa [EntryD.mkL] using SlF.nil _ _ _ _⟩, Frm.of_ext h3⟩
 · refine (markEntryS_any g m cap k cur w hh (by rw [hs]; exact Nat.mul_le_mul_right _ hnc) hl hk).mono ?_
   rintro e w' ⟨rfl, h3, h4⟩
   exact ⟨rfl, ⟨_, _, rfl, slf_row EntryD.cells_length (EntryD.mkL_len _ _) hnc hm h3⟩, Frm.of_grown h4 (fun b hb => by cases hb; rfl)⟩
theorem markReceiptS_row {K m k : Nat} {w : World} {v : Value} {a : List ReceiptD} (h : w.ownsRow K 77 3 v m (a.flatMap ReceiptD.cells)) (hl : m ≤ 1048576) (hk : k ≤ 1099511627) :
 Calls Tryz.prog 58 #[v, .int .i64 (k : Int)] w fun e w' => e = .returned (.int .i64 ((k + m * 3 : Nat) : Int)) ∧ (∃ A c, v = .slice A m c ∧ SlF (InBlock v) ReceiptD.cells 3 w' A (ReceiptD.mkL k m) c) ∧ Frm (InBlock v) w w' := by
 rcases h.2 with ⟨rfl, rfl⟩ | ⟨g, cap, cur, rfl, hg, hh, hnc, hm, hs, ht⟩
 · refine (markReceiptS_nil _ w).mono ?_
   rintro e w' ⟨rfl, h3⟩
   exact ⟨by simp, ⟨none, 0, rfl, by simpa [ReceiptD.mkL] using SlF.nil _ _ _ _⟩, Frm.of_ext h3⟩
 · refine (markReceiptS_any g m cap k cur w hh (by rw [hs]; exact Nat.mul_le_mul_right _ hnc) hl hk).mono ?_
   rintro e w' ⟨rfl, h3, h4⟩
   exact ⟨rfl, ⟨_, _, rfl, slf_row ReceiptD.cells_length (ReceiptD.mkL_len _ _) hnc hm h3⟩, Frm.of_grown h4 (fun b hb => by cases hb; rfl)⟩
theorem markHeadS_row {K m k : Nat} {w : World} {v : Value} {a : List HeadD} (h : w.ownsRow K 55 5 v m (a.flatMap HeadD.cells)) (hl : m ≤ 1048576) (hk : k ≤ 1099511627) :
 Calls Tryz.prog 59 #[v, .int .i64 (k : Int)] w fun e w' => e = .returned (.int .i64 ((k + m * 5 : Nat) : Int)) ∧ (∃ A c, v = .slice A m c ∧ SlF (InBlock v) HeadD.cells 5 w' A (HeadD.mkL k m) c) ∧ Frm (InBlock v) w w' := by
 rcases h.2 with ⟨rfl, rfl⟩ | ⟨g, cap, cur, rfl, hg, hh, hnc, hm, hs, ht⟩
 · refine (markHeadS_nil _ w).mono ?_
   rintro e w' ⟨rfl, h3⟩
   exact ⟨by simp, ⟨none, 0, rfl, by simpa [HeadD.mkL] using SlF.nil _ _ _ _⟩, Frm.of_ext h3⟩
 · refine (markHeadS_any g m cap k cur w hh (by rw [hs]; exact Nat.mul_le_mul_right _ hnc) hl hk).mono ?_
   rintro e w' ⟨rfl, h3, h4⟩
   exact ⟨rfl, ⟨_, _, rfl, slf_row HeadD.cells_length (HeadD.mkL_len _ _) hnc hm h3⟩, Frm.of_grown h4 (fun b hb => by cases hb; rfl)⟩
def SMk (w : World) (v : Value) (k n : Nat) : Prop := (v = .slice none 0 0 ∧ n = 0) ∨ ∃ g c cs, v = .slice (some ⟨g, 0, none⟩) n c ∧ Blk w g 9 (mkd cs k n) ∧ n ≤ cs.size
theorem SMk.ext {w w' : World} {v : Value} {k n : Nat} (h : SMk w v k n) (he : Ext w w') : SMk w' v k n := by
 rcases h with h | ⟨g, c, cs, h1, h2, h3⟩
 · exact .inl h
 · exact .inr ⟨g, c, cs, h1, h2.ext he, h3⟩
theorem SMk.frm {w w' : World} {v : Value} {k n : Nat} {X : Nat → Prop} (h : SMk w v k n) (he : Frm X w w') (hX : ∀ b, v.ownBlock = some b → ¬ X b) : SMk w' v k n := by
 rcases h with h | ⟨g, c, cs, rfl, h2, h3⟩
 · exact .inl h
 · exact .inr ⟨g, c, cs, rfl, he.blk h2 (hX g rfl), h3⟩
theorem markStringS_row {K m k : Nat} {w : World} {v : Value} {a : List Value} (h : w.ownsRow K 9 1 v m a) (hl : m ≤ 1048576) (hk : k ≤ 1073741824) :
 Calls Tryz.prog 22 #[v, .int .i64 (k : Int)] w fun e w' => e = .returned (.int .i64 ((k + m : Nat) : Int)) ∧ SMk w' v k m ∧ Frm (InBlock v) w w' := by
 rcases h.2 with ⟨rfl, rfl⟩ | ⟨g, cap, cur, rfl, hg, hh, hnc, hm, hs, ht⟩
 · refine (markStringS_nil _ w).mono ?_
   rintro e w' ⟨rfl, h3⟩
   exact ⟨by simp, .inl ⟨rfl, rfl⟩, Frm.of_ext h3⟩
 · have hn : m ≤ cur.size := by rw [hs]; omega
   refine (markStringS_any g m cap k cur w hh hn hl hk).mono ?_
   rintro e w' ⟨rfl, h3, h4⟩
   exact ⟨rfl, .inr ⟨g, cap, cur, rfl, h3, hn⟩, Frm.of_grown h4 (fun b hb => by cases hb; rfl)⟩
theorem heldStringS_row {m k : Nat} {w : World} {v : Value} (h : SMk w v k m) (hl : m ≤ 1048576) (hk : k ≤ 1073741824) :
 Calls Tryz.prog 23 #[v, .int .i64 (k : Int)] w fun e w' => e = .returned (.int .i64 ((k + m : Nat) : Int)) ∧ Ext w w' := by
 rcases h with ⟨rfl, rfl⟩ | ⟨g, c, cs, rfl, h2, h3⟩
 · exact heldStringS_nil _ w
 · exact heldStringS_any g m c k cs w h2 h3 hl hk
set_option maxHeartbeats 4000000
def FMk {α : Type} (f : α → List Value) (size : Nat) (mk : Nat → Nat → List α) (w : World) (v : Value) (k m : Nat) : Prop := ∃ A c, v = .slice A m c ∧ SlF (InBlock v) f size w A (mk k m) c
section
variable {α : Type} {f : α → List Value} {size : Nat} {mk : Nat → Nat → List α}
theorem FMk.ext {w w' : World} {v : Value} {k m : Nat} (h : FMk f size mk w v k m) (he : Ext w w') : FMk f size mk w' v k m := by obtain ⟨A, c, h1, h2⟩ := h; exact ⟨A, c, h1, h2.ext he⟩
theorem FMk.frm {w w' : World} {v : Value} {k m : Nat} {X : Nat → Prop} (h : FMk f size mk w v k m) (he : Frm X w w') (hX : ∀ b, v.ownBlock = some b → ¬ X b) : FMk f size mk w' v k m := by
 obtain ⟨A, c, h1, h2⟩ := h; exact ⟨A, c, h1, h2.keep (he.keep (fun b _ hb => hX b hb))⟩
end
theorem markLog_row {K m k : Nat} {v : Value} {a : List EntryD} (w : World) (ho : w.ownsRow K 46 5 v m (a.flatMap EntryD.cells)) (hl : m ≤ 1048576) (hk : k ≤ 100000000) :
 Calls Tryz.prog 57 #[.agg #[v], .int .i64 (k : Int)] w fun e w' => e = .returned (.int .i64 ((k + m * 5 : Nat) : Int)) ∧ FMk EntryD.cells 5 EntryD.mkL w' v k m ∧ Frm (InBlock v) w w' := by
 obtain ⟨V, c, rfl, _⟩ := ownsRow_form ho
 have He := hU (Ext.new (Below.refl w.heap.size w) (.cells #[.slice V m c] 51))
 have HO := hU ho; clear ho
 go_enter Tryz.func57, Tryz.ntmps57
 go_wp2_with fail
 refine (markEntryS_row (k := k) (ownsRow_ext HO.out He.out) (by omega) (by omega)).mono ?_
 rintro e w1 ⟨rfl, m1, f1⟩
 have M1 := hU m1
 have F1 := hU ((Frm.of_ext (X := InBlock (.slice V m c)) He.out).next f1 (fun b _ h => h))
 clear m1 f1
 go_wp2_with fail
 go_ret
 exact ⟨rfl, M1.out, F1.out⟩
theorem markRange_row {K m k : Nat} {v : Value} {a : List Value} (n : Int) (w : World) (ho : w.ownsRow K 9 1 v m a) (hl : m ≤ 1048576) (hk : k ≤ 100000000) :
 Calls Tryz.prog 117 #[.agg #[.int .i64 n, v], .int .i64 (k : Int)] w fun e w' => e = .returned (.int .i64 ((k + m : Nat) : Int)) ∧ SMk w' v k m ∧ Frm (InBlock v) w w' := by
 obtain ⟨V, c, rfl, _⟩ := ownsRow_form ho
 have He := hU (Ext.new (Below.refl w.heap.size w) (.cells #[.int .i64 n, .slice V m c] 54))
 have HO := hU ho; clear ho
 go_enter Tryz.func117, Tryz.ntmps117
 go_wp2_with fail
 refine (markStringS_row (k := k) (ownsRow_ext HO.out He.out) (by omega) (by omega)).mono ?_
 rintro e w1 ⟨rfl, m1, f1⟩
 have M1 := hU m1
 have F1 := hU ((Frm.of_ext (X := InBlock (.slice V m c)) He.out).next f1 (fun b _ h => h))
 clear m1 f1
 go_wp2_with fail
 go_ret
 exact ⟨rfl, M1.out, F1.out⟩
theorem markSeal_row {K1 K2 m1 m2 k : Nat} {v1 v2 : Value} {a1 a2 : List Value} (n1 n2 : Int) (h : HeadD) (w : World) (ho1 : w.ownsRow K1 9 1 v1 m1 a1) (ho2 : w.ownsRow K2 9 1 v2 m2 a2) (hap : ∀ x, v1.ownBlock = some x → v2.ownBlock ≠ some x) (hl1 : m1 ≤ 1048576) (hl2 : m2 ≤ 1048576) (hk : k ≤ 90000000) :
 Calls Tryz.prog 60 #[.agg #[.int .i64 n1, v1, .int .i64 n2, v2, .int .i64 h.number, .int .i64 h.size, .string h.root, .int .i64 h.taken, .string h.takenRoot], .int .i64 (k : Int)] w fun e w' => e = .returned (.int .i64 ((k + m1 + m2 : Nat) : Int)) ∧ SMk w' v1 k m1 ∧ SMk w' v2 (k + m1) m2 ∧ Frm (fun b => InBlock v1 b ∨ InBlock v2 b) w w' := by
 obtain ⟨V1, c1, rfl, _⟩ := ownsRow_form ho1
 obtain ⟨V2, c2, rfl, _⟩ := ownsRow_form ho2
 have K0 := Blk.new w 57 #[.int .i64 n1, .slice V1 m1 c1, .int .i64 n2, .slice V2 m2 c2, .int .i64 h.number, .int .i64 h.size, .string h.root, .int .i64 h.taken, .string h.takenRoot]
 have He := hU (Ext.new (Below.refl w.heap.size w) (.cells #[.int .i64 n1, .slice V1 m1 c1, .int .i64 n2, .slice V2 m2 c2, .int .i64 h.number, .int .i64 h.size, .string h.root, .int .i64 h.taken, .string h.takenRoot] 57))
 have H1 := hU ho1; have H2 := hU ho2; have AP := hU hap
 clear ho1 ho2 hap
 obtain ⟨r0, f0⟩ := K0.rules
 go_enter Tryz.func60, Tryz.ntmps60
 go_wp2_with fail
 refine (markRange_row (k := k) n1 _ (ownsRow_ext H1.out He.out) (by omega) (by omega)).mono ?_
 rintro e w1 ⟨rfl, mm, f1⟩
 have k0 := f1.blk K0 (fun e => by have := (H1.out.lt _ e).2; omega)
 have o2 := hU (f1.own (ownsRow_ext H2.out He.out) (fun b hb e => AP.out b e hb))
 have M1 := hU mm
 have F1 := hU ((Frm.of_ext (X := InBlock (.slice V1 m1 c1)) He.out).next f1 (fun b _ h => h))
 clear mm f1 r0 f0 K0
 obtain ⟨r0, f0⟩ := k0.rules
 go_wp2_with fail
 refine (markRange_row (k := k + m1) n2 _ o2.out (by omega) (by omega)).mono ?_
 rintro e w2 ⟨rfl, mm, f2⟩
 have M2 := hU mm
 have M1' := hU (M1.out.frm f2 (fun b hb e => AP.out b hb e))
 have F2 := hU ((F1.out.mono (Y := fun b => InBlock (.slice V1 m1 c1) b ∨ InBlock (.slice V2 m2 c2) b) (fun b _ h => .inl h)).next f2 (fun b _ h => .inr h))
 clear mm f2 r0 f0 k0
 go_wp2_with fail
 go_ret
 exact ⟨rfl, M1'.out, M2.out, F2.out⟩
def BrkN (b : BrokerD) : Nat := b.log.entries.length * 5 + b.receipts.length * 3 + b.heads.length * 5 + b.sealed.leaves.peaks.length + b.sealed.taken.peaks.length
structure BMk (w : World) (b : BrokerD) (ve vr vh v1 v2 : Value) (k : Nat) : Prop where
 e : FMk EntryD.cells 5 EntryD.mkL w ve k b.log.entries.length
 r : FMk ReceiptD.cells 3 ReceiptD.mkL w vr (k + b.log.entries.length * 5) b.receipts.length
 h : FMk HeadD.cells 5 HeadD.mkL w vh (k + b.log.entries.length * 5 + b.receipts.length * 3) b.heads.length
 p : SMk w v1 (k + b.log.entries.length * 5 + b.receipts.length * 3 + b.heads.length * 5) b.sealed.leaves.peaks.length
 q : SMk w v2 (k + b.log.entries.length * 5 + b.receipts.length * 3 + b.heads.length * 5 + b.sealed.leaves.peaks.length) b.sealed.taken.peaks.length
theorem BMk.ext {w w' : World} {b : BrokerD} {ve vr vh v1 v2 : Value} {k : Nat} (h : BMk w b ve vr vh v1 v2 k) (he : Ext w w') : BMk w' b ve vr vh v1 v2 k := ⟨h.e.ext he, h.r.ext he, h.h.ext he, h.p.ext he, h.q.ext he⟩
def BBlk (ve vr vh v1 v2 : Value) (x : Nat) : Prop := InBlock ve x ∨ InBlock vr x ∨ InBlock vh x ∨ InBlock v1 x ∨ InBlock v2 x
theorem BMk.frm {w w' : World} {b : BrokerD} {ve vr vh v1 v2 : Value} {k : Nat} {X : Nat → Prop} (h : BMk w b ve vr vh v1 v2 k) (he : Frm X w w') (hX : ∀ x, BBlk ve vr vh v1 v2 x → ¬ X x) : BMk w' b ve vr vh v1 v2 k :=
 ⟨h.e.frm he (fun x hx => hX x (.inl hx)), h.r.frm he (fun x hx => hX x (.inr (.inl hx))), h.h.frm he (fun x hx => hX x (.inr (.inr (.inl hx)))), h.p.frm he (fun x hx => hX x (.inr (.inr (.inr (.inl hx))))), h.q.frm he (fun x hx => hX x (.inr (.inr (.inr (.inr hx)))))⟩
structure BLen (b : BrokerD) : Prop where
 e : b.log.entries.length ≤ 1048576
 r : b.receipts.length ≤ 1048576
 h : b.heads.length ≤ 1048576
 p : b.sealed.leaves.peaks.length ≤ 1048576
 q : b.sealed.taken.peaks.length ≤ 1048576
theorem markBroker_row {K k : Nat} {b : BrokerD} {ve vr vh v1 v2 : Value} (w : World) (hB : BRows K w b ve vr vh v1 v2) (hap : ∀ x, v1.ownBlock = some x → v2.ownBlock ≠ some x) (hl : BLen b) (hk : k ≤ 10000000) :
 Calls Tryz.prog 21 #[.agg (brkCs b ve vr vh v1 v2).toArray, .int .i64 (k : Int)] w fun e w' => e = .returned (.int .i64 ((k + BrkN b : Nat) : Int)) ∧ BMk w' b ve vr vh v1 v2 k ∧ Frm (BBlk ve vr vh v1 v2) w w' := by
 obtain ⟨le, lr, lh, lp, lq⟩ := hl
 obtain ⟨he, hr, hh, hp, hq⟩ := hB
 have a1 := own_apart he hr (by decide); have a2 := own_apart he hh (by decide); have a3 := own_apart he hp (by decide); have a4 := own_apart he hq (by decide)
 have a5 := own_apart hr hh (by decide); have a6 := own_apart hr hp (by decide); have a7 := own_apart hr hq (by decide)
 have a8 := own_apart hh hp (by decide); have a9 := own_apart hh hq (by decide)
 obtain ⟨E0, e0, rfl, _⟩ := ownsRow_form he
 obtain ⟨E1, e1, rfl, _⟩ := ownsRow_form hr
 obtain ⟨E2, e2, rfl, _⟩ := ownsRow_form hh
 obtain ⟨E3, e3, rfl, _⟩ := ownsRow_form hp
 obtain ⟨E4, e4, rfl, _⟩ := ownsRow_form hq
 have K0 := Blk.new w 59 #[.int .i64 b.width, .slice E0 b.log.entries.length e0, .slice E1 b.receipts.length e1, .slice E2 b.heads.length e2, .int .i64 b.sealed.leaves.size, .slice E3 b.sealed.leaves.peaks.length e3, .int .i64 b.sealed.taken.size, .slice E4 b.sealed.taken.peaks.length e4, .int .i64 b.sealed.head.number, .int .i64 b.sealed.head.size, .string b.sealed.head.root, .int .i64 b.sealed.head.taken, .string b.sealed.head.takenRoot]
 have x0 := Ext.new (Below.refl w.heap.size w) (.cells #[.int .i64 b.width, .slice E0 b.log.entries.length e0, .slice E1 b.receipts.length e1, .slice E2 b.heads.length e2, .int .i64 b.sealed.leaves.size, .slice E3 b.sealed.leaves.peaks.length e3, .int .i64 b.sealed.taken.size, .slice E4 b.sealed.taken.peaks.length e4, .int .i64 b.sealed.head.number, .int .i64 b.sealed.head.size, .string b.sealed.head.root, .int .i64 b.sealed.head.taken, .string b.sealed.head.takenRoot] 59)
 have X0 := hU x0
 have LT := hU (show ∀ x, BBlk (.slice E0 b.log.entries.length e0) (.slice E1 b.receipts.length e1) (.slice E2 b.heads.length e2) (.slice E3 b.sealed.leaves.peaks.length e3) (.slice E4 b.sealed.taken.peaks.length e4) x → x < w.heap.size from fun x hx => by
  rcases hx with h | h | h | h | h
  · exact (he.lt x h).2
  · exact (hr.lt x h).2
  · exact (hh.lt x h).2
  · exact (hp.lt x h).2
  · exact (hq.lt x h).2)
 have OE := hU (ownsRow_ext he x0); have OR := hU (ownsRow_ext hr x0); have OH := hU (ownsRow_ext hh x0); have OP := hU (ownsRow_ext hp x0); have OQ := hU (ownsRow_ext hq x0)
 have A1 := hU a1; have A2 := hU a2; have A3 := hU a3; have A4 := hU a4; have A5 := hU a5; have A6 := hU a6; have A7 := hU a7; have A8 := hU a8; have A9 := hU a9; have AP := hU hap
 clear he hr hh hp hq a1 a2 a3 a4 a5 a6 a7 a8 a9 hap x0
 simp only [brkCs]
 obtain ⟨r0, f0⟩ := K0.rules
 go_enter Tryz.func21, Tryz.ntmps21
 go_wp2_with fail
 refine (markLog_row (k := k) _ OE.out (by omega) (by omega)).mono ?_
 rintro e w1 ⟨rfl, mm, f1⟩
 have k1 := f1.blk K0 (fun e => by have := LT.out _ (.inl e); omega)
 replace OR := hU (f1.own OR.out (fun x hx e => A1.out x e hx)); replace OH := hU (f1.own OH.out (fun x hx e => A2.out x e hx)); replace OP := hU (f1.own OP.out (fun x hx e => A3.out x e hx)); replace OQ := hU (f1.own OQ.out (fun x hx e => A4.out x e hx))
 have ME := hU mm
 have F := hU ((Frm.of_ext (X := BBlk (.slice E0 b.log.entries.length e0) (.slice E1 b.receipts.length e1) (.slice E2 b.heads.length e2) (.slice E3 b.sealed.leaves.peaks.length e3) (.slice E4 b.sealed.taken.peaks.length e4)) X0.out).next f1 (fun x _ h => .inl h))
 clear mm f1 r0 f0 K0 OE
 obtain ⟨r0, f0⟩ := k1.rules
 go_wp2_with fail
 refine (markReceiptS_row (k := k + b.log.entries.length * 5) OR.out (by omega) (by omega)).mono ?_
 rintro e w2 ⟨rfl, mm, f1⟩
 have k2 := f1.blk k1 (fun e => by have := LT.out _ (.inr (.inl e)); omega)
 replace OH := hU (f1.own OH.out (fun x hx e => A5.out x e hx)); replace OP := hU (f1.own OP.out (fun x hx e => A6.out x e hx)); replace OQ := hU (f1.own OQ.out (fun x hx e => A7.out x e hx))
 replace ME := hU (ME.out.frm f1 (fun x hx e => A1.out x hx e))
 have MR := hU (show FMk ReceiptD.cells 3 ReceiptD.mkL w2 _ _ _ from mm)
 replace F := hU (F.out.next f1 (fun x _ h => .inr (.inl h)))
 clear mm f1 r0 f0 k1 OR
 obtain ⟨r0, f0⟩ := k2.rules
 go_wp2_with fail
 refine (markHeadS_row (k := k + b.log.entries.length * 5 + b.receipts.length * 3) OH.out (by omega) (by omega)).mono ?_
 rintro e w3 ⟨rfl, mm, f1⟩
 have k3 := f1.blk k2 (fun e => by have := LT.out _ (.inr (.inr (.inl e))); omega)
 replace OP := hU (f1.own OP.out (fun x hx e => A8.out x e hx)); replace OQ := hU (f1.own OQ.out (fun x hx e => A9.out x e hx))
 replace ME := hU (ME.out.frm f1 (fun x hx e => A2.out x hx e)); replace MR := hU (MR.out.frm f1 (fun x hx e => A5.out x hx e))
 have MH := hU (show FMk HeadD.cells 5 HeadD.mkL w3 _ _ _ from mm)
 replace F := hU (F.out.next f1 (fun x _ h => .inr (.inr (.inl h))))
 clear mm f1 r0 f0 k2 OH
 obtain ⟨r0, f0⟩ := k3.rules
 have R0 : Hid (w3.rangeAt w.heap.size 4 [.int .i64 b.sealed.leaves.size, .slice E3 b.sealed.leaves.peaks.length e3, .int .i64 b.sealed.taken.size, .slice E4 b.sealed.taken.peaks.length e4, .int .i64 b.sealed.head.number, .int .i64 b.sealed.head.size, .string b.sealed.head.root, .int .i64 b.sealed.head.taken, .string b.sealed.head.takenRoot]) := hU (fun j v hv => by
  rw [k3.cell]
  have hj : j < 9 := by have := (List.getElem?_eq_some_iff.1 hv).1; simpa using this
  match j, hj, hv with
  | 0, _, hv => exact hv
  | 1, _, hv => exact hv
  | 2, _, hv => exact hv
  | 3, _, hv => exact hv
  | 4, _, hv => exact hv
  | 5, _, hv => exact hv
  | 6, _, hv => exact hv
  | 7, _, hv => exact hv
  | 8, _, hv => exact hv)
 go_wp2_with (refine wpList_load_mid rfl 57 _ rfl w.heap.size 4 rfl [.int .i64 b.sealed.leaves.size, .slice E3 b.sealed.leaves.peaks.length e3, .int .i64 b.sealed.taken.size, .slice E4 b.sealed.taken.peaks.length e4, .int .i64 b.sealed.head.number, .int .i64 b.sealed.head.size, .string b.sealed.head.root, .int .i64 b.sealed.head.taken, .string b.sealed.head.takenRoot] _ R0.out Tryz.underlying57 rfl (by kernel_rfl) ?_)
 refine (markSeal_row (k := k + b.log.entries.length * 5 + b.receipts.length * 3 + b.heads.length * 5) b.sealed.leaves.size b.sealed.taken.size b.sealed.head _ OP.out OQ.out AP.out (by omega) (by omega) (by omega)).mono ?_
 rintro e w4 ⟨rfl, mp, mq, f1⟩
 have M : Hid (BMk w4 b (.slice E0 b.log.entries.length e0) (.slice E1 b.receipts.length e1) (.slice E2 b.heads.length e2) (.slice E3 b.sealed.leaves.peaks.length e3) (.slice E4 b.sealed.taken.peaks.length e4) k) := hU
  ⟨ME.out.frm f1 (fun x hx e => e.elim (A3.out x hx) (A4.out x hx)), MR.out.frm f1 (fun x hx e => e.elim (A6.out x hx) (A7.out x hx)), MH.out.frm f1 (fun x hx e => e.elim (A8.out x hx) (A9.out x hx)), mp, mq⟩
 replace F := hU (F.out.next f1 (fun x _ h => .inr (.inr (.inr h))))
 have EN := hU (show ((k + b.log.entries.length * 5 + b.receipts.length * 3 + b.heads.length * 5 + b.sealed.leaves.peaks.length + b.sealed.taken.peaks.length : Nat) : Int) = ((k + BrkN b : Nat) : Int) by unfold BrkN; omega)
 clear mp mq f1 r0 f0 k3 R0
 obtain ⟨kk, hkk⟩ : ∃ kk, kk = k + b.log.entries.length * 5 + b.receipts.length * 3 + b.heads.length * 5 + b.sealed.leaves.peaks.length + b.sealed.taken.peaks.length := ⟨_, rfl⟩
 rw [← hkk] at EN
 rw [← hkk]
 clear hkk
 go_wp2_with fail
 go_ret
 exact ⟨by rw [EN.out]; rfl, M.out, F.out⟩
end Go.Proofs.YtlgdghpnfclgpaaGreat

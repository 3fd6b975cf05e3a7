/-
  Marking rows of the call's own: what they hold, and that nothing else is touched; rows that are nil. No condition.
-/
import Derived.Test.YtkcjhfidgnbdiaaGreatStoreL
import Derived.Test.YtkcjhfidgnbdiaaGreatMarkCliZ
import Derived.Test.YtkcjhfidgnbdiaaGreatMarkEntry
import Derived.Test.YtkcjhfidgnbdiaaGreatMarkHead
import Derived.Test.YtkcjhfidgnbdiaaGreatOwnMark
namespace Go.Proofs.YtkcjhfidgnbdiaaGreat
set_option linter.unusedSimpArgs false
open Go.RowKit
set_option linter.unusedVariables false

def InBlock (v : Value) : Nat → Prop := fun b => v.ownBlock = some b
theorem cli_nils {a : List CliZ} {cur : Array Value} {m : Nat} (ha : a.length = m) (ht : cur.toList.take (m * 8) = a.flatMap CliZ.cells) : ∀ j, j < m → cur[j * 8 + 7]? = some (.slice none 0 0) := by
  intro j hj
  have h1 : (cur.toList.take (m * 8))[j * 8 + 7]? = some (.slice none 0 0) := by
    rw [ht, flat_at _ 8 CliZ.cells_length a j 7 a[j] (List.getElem?_eq_getElem (by omega)) (by omega)]
    rfl
  rw [List.getElem?_take_of_lt (by omega)] at h1
  simpa using h1
theorem slf_row {α : Type} {f : α → List Value} {size m c g : Nat} {l : List α} {cs : Array Value} {t : TypeId} {w : World} (hf : ∀ a, (f a).length = size) (hl : l.length = m) (hm : m ≤ c) (hc : c ≤ maxLen) (hb : Blk w g t (rowAt f size l cs m)) : SlF (InBlock (.slice (some ⟨g, 0, none⟩) m c)) f size w (some ⟨g, 0, none⟩) l c := by
  subst hl
  exact ⟨hm, hc, rowAt_reads hf hb, fun _ a e => by cases e; rfl⟩
theorem markClientS_nil (k : Int) (w : World) : Calls Tryz.prog 98 #[.slice none 0 0, .int .i64 k] w fun e w' => e = .returned (.int .i64 k) ∧ Ext w w' := by
  go_enter Tryz.func98, Tryz.ntmps98
  go_wp2_with fail
  refine wp_loop_rounds 1 ?_
  rw [rounds_succ]
  go_wp2_with fail
  go_ret
  exact ⟨rfl, Below.refl _ _⟩
theorem markCliS_own {K m k : Nat} {w : World} {v : Value} {a : List CliZ} (h : w.ownsRow K 142 8 v m (a.flatMap CliZ.cells)) (ha : a.length = m) (hl : m ≤ 1048576) (hk : k ≤ 1099511627) :
    Calls Tryz.prog 98 #[v, .int .i64 (k : Int)] w fun e w' => e = .returned (.int .i64 ((k + m * 7 : Nat) : Int)) ∧ (∃ A c, v = .slice A m c ∧ SlF (InBlock v) CliZ.cells 8 w' A (CliZ.mkL k m) c) ∧ Frm (InBlock v) w w' := by
  rcases h.2 with ⟨rfl, rfl⟩ | ⟨g, cap, cur, rfl, hg, hh, hnc, hm, hs, ht⟩
  · refine (markClientS_nil _ w).mono ?_
    rintro e w' ⟨rfl, h3⟩
    exact ⟨by simp, ⟨none, 0, rfl, by simpa [CliZ.mkL] using SlF.nil _ _ _ _⟩, Frm.of_ext h3⟩
  · refine (markClientS_z g m cap k cur w hh (by rw [hs]; exact Nat.mul_le_mul_right _ hnc) hl hk (cli_nils ha ht)).mono ?_
    rintro e w' ⟨rfl, h3, h4⟩
    exact ⟨rfl, ⟨_, _, rfl, slf_row CliZ.cells_length (CliZ.mkL_len _ _) hnc hm h3⟩, Frm.of_grown h4 (fun b hb => by cases hb; rfl)⟩
theorem markEntryS_row {K m k : Nat} {w : World} {v : Value} {a : List EntryD} (h : w.ownsRow K 66 5 v m (a.flatMap EntryD.cells)) (hl : m ≤ 1048576) (hk : k ≤ 1099511627) :
    Calls Tryz.prog 171 #[v, .int .i64 (k : Int)] w fun e w' => e = .returned (.int .i64 ((k + m * 5 : Nat) : Int)) ∧ (∃ A c, v = .slice A m c ∧ SlF (InBlock v) EntryD.cells 5 w' A (EntryD.mkL k m) c) ∧ Frm (InBlock v) w w' := by
  rcases h.2 with ⟨rfl, rfl⟩ | ⟨g, cap, cur, rfl, hg, hh, hnc, hm, hs, ht⟩
  · refine (markEntryS_nil _ w).mono ?_
    rintro e w' ⟨rfl, h3⟩
    exact ⟨by simp, ⟨none, 0, rfl, by simpa [EntryD.mkL] using SlF.nil _ _ _ _⟩, Frm.of_ext h3⟩
  · refine (markEntryS_any g m cap k cur w hh (by rw [hs]; exact Nat.mul_le_mul_right _ hnc) hl hk).mono ?_
    rintro e w' ⟨rfl, h3, h4⟩
    exact ⟨rfl, ⟨_, _, rfl, slf_row EntryD.cells_length (EntryD.mkL_len _ _) hnc hm h3⟩, Frm.of_grown h4 (fun b hb => by cases hb; rfl)⟩
theorem markReceiptS_row {K m k : Nat} {w : World} {v : Value} {a : List ReceiptD} (h : w.ownsRow K 97 3 v m (a.flatMap ReceiptD.cells)) (hl : m ≤ 1048576) (hk : k ≤ 1099511627) :
    Calls Tryz.prog 83 #[v, .int .i64 (k : Int)] w fun e w' => e = .returned (.int .i64 ((k + m * 3 : Nat) : Int)) ∧ (∃ A c, v = .slice A m c ∧ SlF (InBlock v) ReceiptD.cells 3 w' A (ReceiptD.mkL k m) c) ∧ Frm (InBlock v) w w' := by
  rcases h.2 with ⟨rfl, rfl⟩ | ⟨g, cap, cur, rfl, hg, hh, hnc, hm, hs, ht⟩
  · refine (markReceiptS_nil _ w).mono ?_
    rintro e w' ⟨rfl, h3⟩
    exact ⟨by simp, ⟨none, 0, rfl, by simpa [ReceiptD.mkL] using SlF.nil _ _ _ _⟩, Frm.of_ext h3⟩
  · refine (markReceiptS_any g m cap k cur w hh (by rw [hs]; exact Nat.mul_le_mul_right _ hnc) hl hk).mono ?_
    rintro e w' ⟨rfl, h3, h4⟩
    exact ⟨rfl, ⟨_, _, rfl, slf_row ReceiptD.cells_length (ReceiptD.mkL_len _ _) hnc hm h3⟩, Frm.of_grown h4 (fun b hb => by cases hb; rfl)⟩
theorem markHeadS_row {K m k : Nat} {w : World} {v : Value} {a : List HeadD} (h : w.ownsRow K 33 5 v m (a.flatMap HeadD.cells)) (hl : m ≤ 1048576) (hk : k ≤ 1099511627) :
    Calls Tryz.prog 84 #[v, .int .i64 (k : Int)] w fun e w' => e = .returned (.int .i64 ((k + m * 5 : Nat) : Int)) ∧ (∃ A c, v = .slice A m c ∧ SlF (InBlock v) HeadD.cells 5 w' A (HeadD.mkL k m) c) ∧ Frm (InBlock v) w w' := by
  rcases h.2 with ⟨rfl, rfl⟩ | ⟨g, cap, cur, rfl, hg, hh, hnc, hm, hs, ht⟩
  · refine (markHeadS_nil _ w).mono ?_
    rintro e w' ⟨rfl, h3⟩
    exact ⟨by simp, ⟨none, 0, rfl, by simpa [HeadD.mkL] using SlF.nil _ _ _ _⟩, Frm.of_ext h3⟩
  · refine (markHeadS_any g m cap k cur w hh (by rw [hs]; exact Nat.mul_le_mul_right _ hnc) hl hk).mono ?_
    rintro e w' ⟨rfl, h3, h4⟩
    exact ⟨rfl, ⟨_, _, rfl, slf_row HeadD.cells_length (HeadD.mkL_len _ _) hnc hm h3⟩, Frm.of_grown h4 (fun b hb => by cases hb; rfl)⟩
theorem markWriteS_row {K m k : Nat} {w : World} {v : Value} {a : List WriteD} (h : w.ownsRow K 157 3 v m (a.flatMap WriteD.cells)) (hl : m ≤ 1048576) (hk : k ≤ 1099511627) :
    Calls Tryz.prog 45 #[v, .int .i64 (k : Int)] w fun e w' => e = .returned (.int .i64 ((k + m * 3 : Nat) : Int)) ∧ (∃ A c, v = .slice A m c ∧ SlF (InBlock v) WriteD.cells 3 w' A (WriteD.mkL k m) c) ∧ Frm (InBlock v) w w' := by
  rcases h.2 with ⟨rfl, rfl⟩ | ⟨g, cap, cur, rfl, hg, hh, hnc, hm, hs, ht⟩
  · refine (markWriteS_nil _ w).mono ?_
    rintro e w' ⟨rfl, h3⟩
    exact ⟨by simp, ⟨none, 0, rfl, by simpa [WriteD.mkL] using SlF.nil _ _ _ _⟩, Frm.of_ext h3⟩
  · refine (markWriteS_any g m cap k cur w hh (by rw [hs]; exact Nat.mul_le_mul_right _ hnc) hl hk).mono ?_
    rintro e w' ⟨rfl, h3, h4⟩
    exact ⟨rfl, ⟨_, _, rfl, slf_row WriteD.cells_length (WriteD.mkL_len _ _) hnc hm h3⟩, Frm.of_grown h4 (fun b hb => by cases hb; rfl)⟩
theorem markGivenS_row {K m k : Nat} {w : World} {v : Value} {a : List GivenD} (h : w.ownsRow K 232 7 v m (a.flatMap GivenD.cells)) (hl : m ≤ 1048576) (hk : k ≤ 1099511627) :
    Calls Tryz.prog 99 #[v, .int .i64 (k : Int)] w fun e w' => e = .returned (.int .i64 ((k + m * 7 : Nat) : Int)) ∧ (∃ A c, v = .slice A m c ∧ SlF (InBlock v) GivenD.cells 7 w' A (GivenD.mkL k m) c) ∧ Frm (InBlock v) w w' := by
  rcases h.2 with ⟨rfl, rfl⟩ | ⟨g, cap, cur, rfl, hg, hh, hnc, hm, hs, ht⟩
  · refine (markGivenS_nil _ w).mono ?_
    rintro e w' ⟨rfl, h3⟩
    exact ⟨by simp, ⟨none, 0, rfl, by simpa [GivenD.mkL] using SlF.nil _ _ _ _⟩, Frm.of_ext h3⟩
  · refine (markGivenS_any g m cap k cur w hh (by rw [hs]; exact Nat.mul_le_mul_right _ hnc) hl hk).mono ?_
    rintro e w' ⟨rfl, h3, h4⟩
    exact ⟨rfl, ⟨_, _, rfl, slf_row GivenD.cells_length (GivenD.mkL_len _ _) hnc hm h3⟩, Frm.of_grown h4 (fun b hb => by cases hb; rfl)⟩
/-- A row of texts holds what marking from k on wrote. -/
def SMk (w : World) (v : Value) (k n : Nat) : Prop := (v = .slice none 0 0 ∧ n = 0) ∨ ∃ g c cs, v = .slice (some ⟨g, 0, none⟩) n c ∧ Blk w g 9 (mkd cs k n) ∧ n ≤ cs.size
theorem SMk.ext {w w' : World} {v : Value} {k n : Nat} (h : SMk w v k n) (he : Ext w w') : SMk w' v k n := by
  rcases h with h | ⟨g, c, cs, h1, h2, h3⟩
  · exact .inl h
  · exact .inr ⟨g, c, cs, h1, h2.ext he, h3⟩
theorem SMk.frm {w w' : World} {v : Value} {k n : Nat} {X : Nat → Prop} (h : SMk w v k n) (he : Frm X w w') (hX : ∀ b, v.ownBlock = some b → ¬ X b) : SMk w' v k n := by
  rcases h with h | ⟨g, c, cs, rfl, h2, h3⟩
  · exact .inl h
  · exact .inr ⟨g, c, cs, rfl, he.blk h2 (hX g rfl), h3⟩
theorem markStringS_row {K m k : Nat} {w : World} {v : Value} {a : List Value} (h : w.ownsRow K 9 1 v m a) (hl : m ≤ 1048576) (hk : k ≤ 1073741824) :
    Calls Tryz.prog 32 #[v, .int .i64 (k : Int)] w fun e w' => e = .returned (.int .i64 ((k + m : Nat) : Int)) ∧ SMk w' v k m ∧ Frm (InBlock v) w w' := by
  rcases h.2 with ⟨rfl, rfl⟩ | ⟨g, cap, cur, rfl, hg, hh, hnc, hm, hs, ht⟩
  · refine (markStringS_nil _ w).mono ?_
    rintro e w' ⟨rfl, h3⟩
    exact ⟨by simp, .inl ⟨rfl, rfl⟩, Frm.of_ext h3⟩
  · have hn : m ≤ cur.size := by rw [hs]; omega
    refine (markStringS_any g m cap k cur w hh hn hl hk).mono ?_
    rintro e w' ⟨rfl, h3, h4⟩
    exact ⟨rfl, .inr ⟨g, cap, cur, rfl, h3, hn⟩, Frm.of_grown h4 (fun b hb => by cases hb; rfl)⟩
theorem heldStringS_row {m k : Nat} {w : World} {v : Value} (h : SMk w v k m) (hl : m ≤ 1048576) (hk : k ≤ 1073741824) :
    Calls Tryz.prog 33 #[v, .int .i64 (k : Int)] w fun e w' => e = .returned (.int .i64 ((k + m : Nat) : Int)) ∧ Ext w w' := by
  rcases h with ⟨rfl, rfl⟩ | ⟨g, c, cs, rfl, h2, h3⟩
  · exact heldStringS_nil _ w
  · exact heldStringS_any g m c k cs w h2 h3 hl hk
set_option maxRecDepth 100000 in
theorem markItemS_nil (k : Int) (w : World) : Calls Tryz.prog 100 #[.slice none 0 0, .int .i64 k] w fun e w' => e = .returned (.int .i64 k) ∧ Ext w w' := by
  go_enter Tryz.func100, Tryz.ntmps100
  go_wp2_with fail
  refine wp_loop_rounds 1 ?_
  rw [rounds_succ]
  go_wp2_with fail
  go_ret
  exact ⟨rfl, Below.refl _ _⟩
set_option maxRecDepth 100000 in
theorem heldItemS_nil (k : Int) (w : World) : Calls Tryz.prog 104 #[.slice none 0 0, .int .i64 k] w fun e w' => e = .returned (.int .i64 k) ∧ Ext w w' := by
  go_enter Tryz.func104, Tryz.ntmps104
  go_wp2_with fail
  refine wp_loop_rounds 1 ?_
  rw [rounds_succ]
  go_wp2_with fail
  go_ret
  exact ⟨rfl, Below.refl _ _⟩
theorem heldEntryS_nil (k : Int) (w : World) : Calls Tryz.prog 214 #[.slice none 0 0, .int .i64 k] w fun e w' => e = .returned (.int .i64 k) ∧ Ext w w' := by
  go_enter Tryz.func214, Tryz.ntmps214
  go_wp2_with fail
  refine wp_loop_rounds 1 ?_
  rw [rounds_succ]
  go_wp2_with fail
  go_ret
  exact ⟨rfl, Below.refl _ _⟩
theorem heldReceiptS_nil (k : Int) (w : World) : Calls Tryz.prog 126 #[.slice none 0 0, .int .i64 k] w fun e w' => e = .returned (.int .i64 k) ∧ Ext w w' := by
  go_enter Tryz.func126, Tryz.ntmps126
  go_wp2_with fail
  refine wp_loop_rounds 1 ?_
  rw [rounds_succ]
  go_wp2_with fail
  go_ret
  exact ⟨rfl, Below.refl _ _⟩
theorem heldGivenS_nil (k : Int) (w : World) : Calls Tryz.prog 103 #[.slice none 0 0, .int .i64 k] w fun e w' => e = .returned (.int .i64 k) ∧ Ext w w' := by
  go_enter Tryz.func103, Tryz.ntmps103
  go_wp2_with fail
  refine wp_loop_rounds 1 ?_
  rw [rounds_succ]
  go_wp2_with fail
  go_ret
  exact ⟨rfl, Below.refl _ _⟩
end Go.Proofs.YtkcjhfidgnbdiaaGreat

/-
  The laws' own functions at a dark without cursors: walks. No condition.
-/
import Derived.Test.YtkcjhfidgnbdiaaDarkNw
import Derived.Test.YtkcjhfidgnbdiaaMarkCliZ
import Derived.Test.YtkcjhfidgnbdiaaMarkScnZ
import Derived.Test.YtkcjhfidgnbdiaaMarkOwnGiven
namespace Go.Proofs.Ytkcjhfidgnbdiaa
set_option linter.unusedSimpArgs false
open Go.RowKit
set_option linter.unusedVariables false

def InBlock (v : Value) : Nat → Prop := fun b => v.ownBlock = some b
theorem cli_nils {a : List CliZ} {cur : Array Value} {m : Nat} (ha : a.length = m) (ht : cur.toList.take (m * 8) = a.flatMap CliZ.cells) : ∀ j, j < m → cur[j * 8 + 7]? = some (.slice none 0 0) := by
  intro j hj
  have h1 : (cur.toList.take (m * 8))[j * 8 + 7]? = some (.slice none 0 0) := by
    rw [ht, flat_at _ 8 CliZ.cells_length a j 7 a[j] (List.getElem?_eq_getElem (by omega)) (by omega)]
    rfl
  rw [List.getElem?_take_of_lt (by omega)] at h1
  simpa using h1
theorem scn_nils {a : List ScnZ} {cur : Array Value} {m : Nat} (ha : a.length = m) (ht : cur.toList.take (m * 10) = a.flatMap ScnZ.cells) : (∀ j, j < m → cur[j * 10 + 7]? = some (.slice none 0 0)) ∧ ∀ j, j < m → cur[j * 10 + 9]? = some (.slice none 0 0) := by
  refine ⟨fun j hj => ?_, fun j hj => ?_⟩
  · have h1 : (cur.toList.take (m * 10))[j * 10 + 7]? = some (.slice none 0 0) := by
      rw [ht, flat_at _ 10 ScnZ.cells_length a j 7 a[j] (List.getElem?_eq_getElem (by omega)) (by omega)]
      rfl
    rw [List.getElem?_take_of_lt (by omega)] at h1
    simpa using h1
  · have h1 : (cur.toList.take (m * 10))[j * 10 + 9]? = some (.slice none 0 0) := by
      rw [ht, flat_at _ 10 ScnZ.cells_length a j 9 a[j] (List.getElem?_eq_getElem (by omega)) (by omega)]
      rfl
    rw [List.getElem?_take_of_lt (by omega)] at h1
    simpa using h1
theorem slf_row {α : Type} {f : α → List Value} {size m c g : Nat} {l : List α} {cs : Array Value} {t : TypeId} {w : World} (hf : ∀ a, (f a).length = size) (hl : l.length = m) (hm : m ≤ c) (hc : c ≤ maxLen) (hb : Blk w g t (rowAt f size l cs m)) : SlF (InBlock (.slice (some ⟨g, 0, none⟩) m c)) f size w (some ⟨g, 0, none⟩) l c := by
  subst hl
  exact ⟨hm, hc, rowAt_reads hf hb, fun _ a e => by cases e; rfl⟩
theorem markClientS_nil (k : Int) (w : World) : Calls Try.prog 52 #[.slice none 0 0, .int .i64 k] w fun e w' => e = .returned (.int .i64 k) ∧ Ext w w' := by
  go_enter Try.func52, Try.ntmps52
  go_wp2_with fail
  refine wp_loop_rounds 1 ?_
  rw [rounds_succ]
  go_wp2_with fail
  go_ret
  exact ⟨rfl, Below.refl _ _⟩
theorem markCliS_own {K m k : Nat} {w : World} {v : Value} {a : List CliZ} (h : w.ownsRow K 77 8 v m (a.flatMap CliZ.cells)) (ha : a.length = m) (hl : m ≤ 1048576) (hk : k ≤ 1099511627) :
    Calls Try.prog 52 #[v, .int .i64 (k : Int)] w fun e w' => e = .returned (.int .i64 ((k + m * 7 : Nat) : Int)) ∧ (∃ A c, v = .slice A m c ∧ SlF (InBlock v) CliZ.cells 8 w' A (CliZ.mkL k m) c) ∧ Frm (InBlock v) w w' := by
  rcases h.2 with ⟨rfl, rfl⟩ | ⟨g, cap, cur, rfl, hg, hh, hnc, hm, hs, ht⟩
  · refine (markClientS_nil _ w).mono ?_
    rintro e w' ⟨rfl, h3⟩
    exact ⟨by simp, ⟨none, 0, rfl, by simpa [CliZ.mkL] using SlF.nil _ _ _ _⟩, Frm.of_ext h3⟩
  · refine (markClientS_z g m cap k cur w hh (by rw [hs]; exact Nat.mul_le_mul_right _ hnc) hl hk (cli_nils ha ht)).mono ?_
    rintro e w' ⟨rfl, h3, h4⟩
    exact ⟨rfl, ⟨_, _, rfl, slf_row CliZ.cells_length (CliZ.mkL_len _ _) hnc hm h3⟩, Frm.of_grown h4 (fun b hb => by cases hb; rfl)⟩
theorem markScannerS_nil (k : Int) (w : World) : Calls Try.prog 53 #[.slice none 0 0, .int .i64 k] w fun e w' => e = .returned (.int .i64 k) ∧ Ext w w' := by
  go_enter Try.func53, Try.ntmps53
  go_wp2_with fail
  refine wp_loop_rounds 1 ?_
  rw [rounds_succ]
  go_wp2_with fail
  go_ret
  exact ⟨rfl, Below.refl _ _⟩
theorem markScnS_own {K m k : Nat} {w : World} {v : Value} {a : List ScnZ} (h : w.ownsRow K 81 10 v m (a.flatMap ScnZ.cells)) (ha : a.length = m) (hl : m ≤ 1048576) (hk : k ≤ 1099511627) :
    Calls Try.prog 53 #[v, .int .i64 (k : Int)] w fun e w' => e = .returned (.int .i64 ((k + m * 8 : Nat) : Int)) ∧ (∃ A c, v = .slice A m c ∧ SlF (InBlock v) ScnZ.cells 10 w' A (ScnZ.mkL k m) c) ∧ Frm (InBlock v) w w' := by
  rcases h.2 with ⟨rfl, rfl⟩ | ⟨g, cap, cur, rfl, hg, hh, hnc, hm, hs, ht⟩
  · refine (markScannerS_nil _ w).mono ?_
    rintro e w' ⟨rfl, h3⟩
    exact ⟨by simp, ⟨none, 0, rfl, by simpa [ScnZ.mkL] using SlF.nil _ _ _ _⟩, Frm.of_ext h3⟩
  · refine (markScannerS_z g m cap k cur w hh (by rw [hs]; exact Nat.mul_le_mul_right _ hnc) hl hk (scn_nils ha ht).1 (scn_nils ha ht).2).mono ?_
    rintro e w' ⟨rfl, h3, h4⟩
    exact ⟨rfl, ⟨_, _, rfl, slf_row ScnZ.cells_length (ScnZ.mkL_len _ _) hnc hm h3⟩, Frm.of_grown h4 (fun b hb => by cases hb; rfl)⟩
set_option maxRecDepth 100000 in
theorem markItemS_nil (k : Int) (w : World) : Calls Try.prog 55 #[.slice none 0 0, .int .i64 k] w fun e w' => e = .returned (.int .i64 k) ∧ Ext w w' := by
  go_enter Try.func55, Try.ntmps55
  go_wp2_with fail
  refine wp_loop_rounds 1 ?_
  rw [rounds_succ]
  go_wp2_with fail
  go_ret
  exact ⟨rfl, Below.refl _ _⟩
set_option maxRecDepth 100000 in
theorem heldItemS_nil (k : Int) (w : World) : Calls Try.prog 60 #[.slice none 0 0, .int .i64 k] w fun e w' => e = .returned (.int .i64 k) ∧ Ext w w' := by
  go_enter Try.func60, Try.ntmps60
  go_wp2_with fail
  refine wp_loop_rounds 1 ?_
  rw [rounds_succ]
  go_wp2_with fail
  go_ret
  exact ⟨rfl, Below.refl _ _⟩
theorem heldGivenS_nil (k : Int) (w : World) : Calls Try.prog 59 #[.slice none 0 0, .int .i64 k] w fun e w' => e = .returned (.int .i64 k) ∧ Ext w w' := by
  go_enter Try.func59, Try.ntmps59
  go_wp2_with fail
  refine wp_loop_rounds 1 ?_
  rw [rounds_succ]
  go_wp2_with fail
  go_ret
  exact ⟨rfl, Below.refl _ _⟩
theorem markMeetingS_nil (k : Int) (w : World) : Calls Try.prog 56 #[.slice none 0 0, .int .i64 k] w fun e w' => e = .returned (.int .i64 k) ∧ Ext w w' := by
  go_enter Try.func56, Try.ntmps56
  go_wp2_with fail
  refine wp_loop_rounds 1 ?_
  rw [rounds_succ]
  go_wp2_with fail
  go_ret
  exact ⟨rfl, Below.refl _ _⟩
theorem heldMeetingS_nil (k : Int) (w : World) : Calls Try.prog 61 #[.slice none 0 0, .int .i64 k] w fun e w' => e = .returned (.int .i64 k) ∧ Ext w w' := by
  go_enter Try.func61, Try.ntmps61
  go_wp2_with fail
  refine wp_loop_rounds 1 ?_
  rw [rounds_succ]
  go_wp2_with fail
  go_ret
  exact ⟨rfl, Below.refl _ _⟩
/-- A dark's rows hold what marking wrote. -/
def DarkMk (w : World) (v0 v1 : Value) (m : Nat) : Prop := ∃ A0 c0 A1 c1, v0 = .slice A0 m c0 ∧ v1 = .slice A1 m c1 ∧ SlF AnyB CliZ.cells 8 w A0 (CliZ.mkL 1 m) c0 ∧ SlF AnyB ScnZ.cells 10 w A1 (ScnZ.mkL (1 + m * 7) m) c1
theorem DarkMk.ext {w w' : World} {v0 v1 : Value} {m : Nat} (h : DarkMk w v0 v1 m) (he : Ext w w') : DarkMk w' v0 v1 m := by
  obtain ⟨A0, c0, A1, c1, h0, h1, h2, h3⟩ := h
  exact ⟨A0, c0, A1, c1, h0, h1, h2.ext he, h3.ext he⟩
set_option maxHeartbeats 1000000 in
theorem markDark_two {K m : Nat} {w : World} {v0 v1 : Value} {a : List CliZ} {b : List ScnZ} (h : Two K w v0 v1 m a b) (ha : a.length = m) (hb : b.length = m) (hl : m ≤ 1000) (hK : K ≤ w.heap.size) :
    Calls Try.prog 23 #[.agg (darkV v0 v1).toArray, .int .i64 1] w fun e w' => e = .returned (.int .i64 ((1 + m * 7 + m * 8 : Nat) : Int)) ∧ DarkMk w' v0 v1 m ∧ Frm (fun b => InBlock v0 b ∨ InBlock v1 b) w w' := by
  have T := Lib.hid h; clear h
  obtain ⟨V0, cv0, rfl, hnc0⟩ := ownsRow_form T.out.1
  obtain ⟨V1, cv1, rfl, hnc1⟩ := ownsRow_form T.out.2.1
  have K0 := Lib.hid (Blk.new w 50 #[.slice V0 m cv0, .slice V1 m cv1, .slice none 0 0, .slice none 0 0, .slice none 0 0, .slice none 0 0])
  have T0 := Lib.hid (T.out.ext (Ext.new (Below.refl w.heap.size w) (.cells #[.slice V0 m cv0, .slice V1 m cv1, .slice none 0 0, .slice none 0 0, .slice none 0 0, .slice none 0 0] 50)))
  have F0 := Lib.hid (Frm.of_ext (X := fun b => InBlock (.slice V0 m cv0) b ∨ InBlock (.slice V1 m cv1) b) (Ext.new (Below.refl w.heap.size w) (.cells #[.slice V0 m cv0, .slice V1 m cv1, .slice none 0 0, .slice none 0 0, .slice none 0 0, .slice none 0 0] 50)))
  have L0 := Lib.hid T.out.1.lt; have L1 := Lib.hid T.out.2.1.lt
  unfold darkV
  go_enter Try.func23, Try.ntmps23
  go_wp2_with fail
  refine (markCliS_own (k := 1) T0.out.1 ha (by omega) (by decide)).mono ?_
  rintro e w1 ⟨rfl, ⟨A0, c0, hv0, s0⟩, f1⟩
  obtain ⟨rfl, rfl⟩ : V0 = A0 ∧ cv0 = c0 := by simpa using hv0
  have k1 := f1.blk K0.out (fun e => by have := (L0.out _ e).2; omega)
  have o1 := Lib.hid (f1.own T0.out.2.1 (fun x hx e => T.out.2.2 x e hx))
  have F1 := Lib.hid (F0.out.next f1 (fun b _ e => .inl e))
  have S0 := Lib.hid s0; clear s0 hv0 f1 F0
  obtain ⟨r0, m0⟩ := k1.rules
  go_wp2_with fail
  refine (markScnS_own (k := 1 + m * 7) o1.out hb (by omega) (by omega)).mono ?_
  rintro e w2 ⟨rfl, ⟨A1, c1, hv1, s1⟩, f2⟩
  obtain ⟨rfl, rfl⟩ : V1 = A1 ∧ cv1 = c1 := by simpa using hv1
  replace k1 := f2.blk k1 (fun e => by have := (L1.out _ e).2; omega)
  have F2 := Lib.hid (F1.out.next f2 (fun b _ e => .inr e))
  have D := Lib.hid (show DarkMk w2 (.slice V0 m cv0) (.slice V1 m cv1) m from ⟨_, _, _, _, rfl, rfl, (S0.out.keep (f2.keep (fun x _ hx e => T.out.2.2 x hx e))).any, s1.any⟩)
  clear s1 hv1 f2 F1 r0 m0 S0 o1
  obtain ⟨r0, m0⟩ := k1.rules
  go_wp2_with fail
  refine (markGivenS_nil _ _).mono ?_
  rintro e w3 ⟨rfl, h1⟩
  replace k1 := k1.ext h1; replace D := Lib.hid (D.out.ext h1); replace F2 := Lib.hid (F2.out.ext h1)
  clear r0 m0 h1
  obtain ⟨r0, m0⟩ := k1.rules
  go_wp2_with fail
  refine (markGivenS_nil _ _).mono ?_
  rintro e w4 ⟨rfl, h1⟩
  replace k1 := k1.ext h1; replace D := Lib.hid (D.out.ext h1); replace F2 := Lib.hid (F2.out.ext h1)
  clear r0 m0 h1
  obtain ⟨r0, m0⟩ := k1.rules
  go_wp2_with fail
  refine (markItemS_nil _ _).mono ?_
  rintro e w5 ⟨rfl, h1⟩
  replace k1 := k1.ext h1; replace D := Lib.hid (D.out.ext h1); replace F2 := Lib.hid (F2.out.ext h1)
  clear r0 m0 h1
  obtain ⟨r0, m0⟩ := k1.rules
  go_wp2_with fail
  refine (markMeetingS_nil _ _).mono ?_
  rintro e w6 ⟨rfl, h1⟩
  replace D := Lib.hid (D.out.ext h1); replace F2 := Lib.hid (F2.out.ext h1)
  clear r0 m0 h1
  go_wp2_with fail
  go_ret
  exact ⟨rfl, D.out, F2.out⟩
set_option maxHeartbeats 1000000 in
theorem heldDark_two {m : Nat} {w : World} {v0 v1 : Value} (h : DarkMk w v0 v1 m) (hl : m ≤ 1000) :
    Calls Try.prog 24 #[.agg (darkV v0 v1).toArray, .int .i64 1] w fun e w' => e = .returned (.int .i64 ((1 + m * 7 + m * 8 : Nat) : Int)) ∧ Ext w w' := by
  obtain ⟨V0, cv0, V1, cv1, rfl, rfl, s0, s1⟩ := h
  have S0 := Lib.hid s0; have S1 := Lib.hid s1; clear s0 s1
  have K0 := Lib.hid (Blk.new w 50 #[.slice V0 m cv0, .slice V1 m cv1, .slice none 0 0, .slice none 0 0, .slice none 0 0, .slice none 0 0])
  have He := Lib.hid (Ext.new (Below.refl w.heap.size w) (.cells #[.slice V0 m cv0, .slice V1 m cv1, .slice none 0 0, .slice none 0 0, .slice none 0 0, .slice none 0 0] 50))
  have q1 : (0 : Int) ≤ ((1 + m * 7 : Nat) : Int) := by omega
  have q2 : (0 : Int) ≤ ((1 + m * 7 + m * 8 : Nat) : Int) := by omega
  unfold darkV
  go_enter Try.func24, Try.ntmps24
  go_wp2_with fail
  refine (heldClientS_z V0 m cv0 1 _ (S0.out.ext He.out).reads (by omega) (by decide)).mono ?_
  rintro e w1 ⟨rfl, h1⟩
  have k1 := K0.out.ext h1; have he := He.out.next h1; clear h1 K0 He
  obtain ⟨r0, m0⟩ := k1.rules
  go_wp2_with fail
  refine (heldScannerS_z V1 m cv1 (1 + m * 7) _ (S1.out.ext he).reads (by omega) (by omega)).mono ?_
  rintro e w2 ⟨rfl, h1⟩
  replace k1 := k1.ext h1; replace he := he.next h1; clear h1 r0 m0
  obtain ⟨r0, m0⟩ := k1.rules
  go_wp2_with fail
  refine (heldGivenS_nil _ _).mono ?_
  rintro e w3 ⟨rfl, h1⟩
  replace k1 := k1.ext h1; replace he := he.next h1; clear h1 r0 m0
  obtain ⟨r0, m0⟩ := k1.rules
  go_wp2_with fail
  refine (heldGivenS_nil _ _).mono ?_
  rintro e w4 ⟨rfl, h1⟩
  replace k1 := k1.ext h1; replace he := he.next h1; clear h1 r0 m0
  obtain ⟨r0, m0⟩ := k1.rules
  go_wp2_with fail
  refine (heldItemS_nil _ _).mono ?_
  rintro e w5 ⟨rfl, h1⟩
  replace k1 := k1.ext h1; replace he := he.next h1; clear h1 r0 m0
  obtain ⟨r0, m0⟩ := k1.rules
  go_wp2_with fail
  refine (heldMeetingS_nil _ _).mono ?_
  rintro e w6 ⟨rfl, h1⟩
  replace he := he.next h1; clear h1 r0 m0
  go_wp2_with fail
  go_ret
  exact ⟨rfl, he⟩
end Go.Proofs.Ytkcjhfidgnbdiaa

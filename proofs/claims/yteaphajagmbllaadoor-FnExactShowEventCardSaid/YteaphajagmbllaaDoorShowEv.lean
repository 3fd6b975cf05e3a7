/-
  ShowEvent: plain, and both sides' walks. No condition.
-/
import Derived.Test.YteaphajagmbllaaDoorDec
import Derived.Test.YteaphajagmbllaaDoorItoa
import Derived.Test.YteaphajagmbllaaDoorConvEvent
import Derived.Lib.AppendIntMem
namespace Go.Proofs.YteaphajagmbllaaDoor
open Go.RowKit
set_option linter.unusedVariables false

/-- The name of a kind of acts. -/
def actName (k : Int) : ByteArray :=
  if k = 1 then ⟨#[112, 117, 98, 108, 105, 115, 104]⟩
  else if k = 2 then ⟨#[115, 101, 97, 108]⟩
  else if k = 3 then ⟨#[104, 101, 97, 100]⟩
  else if k = 4 then ⟨#[110, 101, 120, 116]⟩
  else if k = 5 then ⟨#[114, 101, 99, 101, 105, 112, 116]⟩
  else if k = 6 then ⟨#[97, 117, 100, 105, 116]⟩
  else if k = 7 then ⟨#[103, 111, 115, 115, 105, 112]⟩
  else ⟨#[110, 111, 110, 101]⟩
theorem actName_out (k : Int) (h : k < 1 ∨ 7 < k) : actName k = ⟨#[110, 111, 110, 101]⟩ := by
  unfold actName
  rw [if_neg (by omega), if_neg (by omega), if_neg (by omega), if_neg (by omega), if_neg (by omega), if_neg (by omega), if_neg (by omega)]
theorem actName_size (k : Int) : (actName k).size ≤ 7 := by
  unfold actName
  repeat' split
  all_goals decide
theorem implActName_any (k : Int) (w : World) : Calls Tryd.prog 15 #[.int .i64 k] w fun e w' => e = .returned (.string (actName k)) ∧ w = w' := by
  go_enter Tryd.func15, Tryd.ntmps15
  go_wp2
  all_goals
    go_ret
    refine ⟨?_, rfl⟩
    simp_all [actName]
abbrev Tab (w : World) : Prop := Lib.TabIs Tryd.prog w "internal/strconv.uint64pow10" .u64 Lib.pow10Tab
theorem Tab.ext {w w' : World} (h : Tab w) (he : Ext w w') : Tab w' := Lib.tabBelow_of_tabIs h w' he
theorem Below.grown_ (w : World) (k : Nat) (os : Array Obj) : Below w.heap.size w (Sort.grow (w.drewN k) os) := by
  refine ⟨rfl, rfl, rfl, ?_, ?_⟩
  · show w.heap.size ≤ (w.heap ++ os).size
    rw [Array.size_append]; omega
  · intro b hb
    show (w.heap ++ os)[b]? = w.heap[b]?
    rw [Array.getElem?_append_left hb]
theorem implDecimal_any (n : Int) (w : World) (h0 : -9223372036854775808 ≤ n) (h1 : n ≤ 9223372036854775807) (ht : Tab w) : Calls Tryd.prog 16 #[.int .i64 n] w fun e w' => e = .returned (.string (decT n)) ∧ Ext w w' := by
  go_enter Tryd.func16, Tryd.ntmps16
  go_wp2_with fail
  refine (Itoa_any n h0 h1 w ht).mono ?_
  rintro e w1 ⟨rfl, k, os, rfl⟩
  have he := Below.grown_ w k os
  generalize Sort.grow (w.drewN k) os = w1 at *
  go_wp2_with fail
  go_ret
  exact ⟨rfl, he⟩
/-- The line of an event. -/
def evOn (d : EventD) : Bool := d.code == 0 && (d.kind == 1 || (d.kind == 4 || d.kind == 6))
def evLine (d : EventD) : ByteArray := if evOn d then actName d.kind ++ ⟨#[32]⟩ ++ decT d.code ++ ⟨#[32]⟩ ++ decT d.leaf else actName d.kind ++ ⟨#[32]⟩ ++ decT d.code
theorem EventD.ok_code {d : EventD} (h : d.Ok) : -9223372036854775808 ≤ d.code ∧ d.code ≤ 9223372036854775807 := by
  obtain ⟨h1, h2, h3, h4⟩ := h
  simp [Lit.wf, IntKind.min, IntKind.max, IntKind.signed, IntKind.bits] at h4
  exact h4
theorem EventD.ok_leaf {d : EventD} (h : d.Ok) : -9223372036854775808 ≤ d.leaf ∧ d.leaf ≤ 9223372036854775807 := by
  obtain ⟨h1, h2, h3, h4⟩ := h
  simp [Lit.wf, IntKind.min, IntKind.max, IntKind.signed, IntKind.bits] at h3
  exact h3
-- BEGINWALK
set_option maxHeartbeats 1000000 in
theorem implShowEvent_any (d : EventD) (w : World) (hd : d.Ok) (ht : Tab w) : Calls Tryd.prog 7 #[.agg #[.int .i64 d.kind, .int .i64 d.who, .int .i64 d.leaf, .int .i64 d.code]] w fun e w' => e = .returned (.string (evLine d)) ∧ Ext w w' := by
  have K := Blk.new w 25 #[.int .i64 d.kind, .int .i64 d.who, .int .i64 d.leaf, .int .i64 d.code]
  have he := Ext.new (Below.refl w.heap.size w) (.cells #[.int .i64 d.kind, .int .i64 d.who, .int .i64 d.leaf, .int .i64 d.code] 25)
  obtain ⟨rc, rf⟩ := K.rules
  obtain ⟨hc0, hc1⟩ := EventD.ok_code hd
  obtain ⟨hl0, hl1⟩ := EventD.ok_leaf hd
  have HL := Lib.hid (decT_size d.leaf hl0 hl1)
  have HC := Lib.hid (decT_size d.code hc0 hc1)
  have HA := Lib.hid (actName_size d.kind)
  have HE := Lib.hid (show evLine d = if evOn d then actName d.kind ++ ⟨#[32]⟩ ++ decT d.code ++ ⟨#[32]⟩ ++ decT d.leaf else actName d.kind ++ ⟨#[32]⟩ ++ decT d.code from rfl)
  have z1 : ¬ 9223372036854775807 < (actName d.kind).size + 1 := by have := HA.out; have := HC.out; have := HL.out; omega
  have z2 : ¬ 9223372036854775807 < (actName d.kind).size + 1 + (decT d.code).size := by have := HA.out; have := HC.out; have := HL.out; omega
  have z3 : ¬ 9223372036854775807 < (actName d.kind).size + 1 + (decT d.code).size + 1 := by have := HA.out; have := HC.out; have := HL.out; omega
  have z4 : ¬ 9223372036854775807 < (actName d.kind).size + 1 + (decT d.code).size + 1 + (decT d.leaf).size := by have := HA.out; have := HC.out; have := HL.out; omega
  have y1 : ¬ 9223372036854775807 < (actName d.kind).size + (⟨#[32]⟩ : ByteArray).size := z1
  have y2 : ¬ 9223372036854775807 < ((actName d.kind) ++ (⟨#[32]⟩ : ByteArray)).size + (decT d.code).size := by rw [ByteArray.size_append]; exact z2
  have y3 : ¬ 9223372036854775807 < ((actName d.kind) ++ (⟨#[32]⟩ : ByteArray) ++ (decT d.code)).size + 1 := by rw [ByteArray.size_append, ByteArray.size_append]; exact z3
  have y4 : ¬ 9223372036854775807 < ((actName d.kind) ++ (⟨#[32]⟩ : ByteArray) ++ (decT d.code)).size + (⟨#[32]⟩ : ByteArray).size := y3
  have y5 : ¬ 9223372036854775807 < ((actName d.kind) ++ (⟨#[32]⟩ : ByteArray) ++ (decT d.code) ++ (⟨#[32]⟩ : ByteArray)).size + (decT d.leaf).size := by rw [ByteArray.size_append, ByteArray.size_append, ByteArray.size_append]; exact z4
  have hT := Lib.hid (ht.ext he)
  clear hd ht
  go_enter Tryd.func7, Tryd.ntmps7
  go_upto_region 1 with fail
  obtain ⟨g, hg⟩ : ∃ g, g = w.heap.size := ⟨_, rfl⟩
  rw [← hg] at K rc rf
  rw [← hg]
  clear hg
  generalize w.alloc _ = W at *
  go_region_held3 (fun w' => w'.cell? ⟨g, 0, none⟩ = some (.int .i64 d.kind) ∧ w'.cell? ⟨g, 2, none⟩ = some (.int .i64 d.leaf) ∧ w'.cell? ⟨g, 3, none⟩ = some (.int .i64 d.code) ∧ Blk w' g 25 #[.int .i64 d.kind, .int .i64 d.who, .int .i64 d.leaf, .int .i64 d.code] ∧ Tab w' ∧ Ext w w')
    (first | exact ⟨rc 0, rc 2, rc 3, K.drew, hT.out, he.drew⟩ | (go_split_ands; refine ⟨?_, ?_, ?_, ?_, ?_, ?_⟩ <;> assumption) | (go_split_ands; have N0 := Blk.ext (g := g) (by assumption) h1; exact ⟨N0.cell 0, N0.cell 2, N0.cell 3, N0, Tab.ext (by assumption) h1, Ext.next (by assumption) h1⟩))
    (first | (go_at_call 15; refine (implActName_any _ _).mono ?_; rintro e w' ⟨rfl, rfl⟩) | (go_at_call 16; go_split_ands; refine (implDecimal_any d.code _ hc0 hc1 (by assumption)).mono ?_; rintro e w' ⟨rfl, h1⟩))
  all_goals
    go_split_ands
    clear rc rf K he hT
    have K : Blk w' g 25 #[.int .i64 d.kind, .int .i64 d.who, .int .i64 d.leaf, .int .i64 d.code] := by assumption
    have he : Ext w w' := by assumption
    have hT : Tab w' := by assumption
    obtain ⟨rc, rf⟩ := K.rules
    cases q0 : (d.code == 0)
    · have E := Lib.hid (show evLine d = actName d.kind ++ ⟨#[32]⟩ ++ decT d.code by rw [HE.out, if_neg (by simp [evOn, q0])])
      go_wp2_with fail
      go_ret
      exact ⟨dec_str E.out.symm, he⟩
    cases q1 : (d.kind == 1) <;> cases q4 : (d.kind == 4) <;> cases q6 : (d.kind == 6)
    case false.false.false =>
      have E := Lib.hid (show evLine d = actName d.kind ++ ⟨#[32]⟩ ++ decT d.code by rw [HE.out, if_neg (by simp [evOn, q1, q4, q6])])
      go_wp2_with fail
      go_ret
      exact ⟨dec_str E.out.symm, he⟩
    all_goals
      have E := Lib.hid (show evLine d = actName d.kind ++ ⟨#[32]⟩ ++ decT d.code ++ ⟨#[32]⟩ ++ decT d.leaf by rw [HE.out, if_pos (by simp [evOn, q0, q1, q4, q6])])
      go_wp2_with fail
      refine (implDecimal_any d.leaf _ hl0 hl1 hT).mono ?_
      rintro e w9 ⟨rfl, h1⟩
      replace he := he.next h1; clear h1 rc rf K
      go_wp2_with fail
      go_ret
      exact ⟨dec_str E.out.symm, he⟩
def actCells : Array Value := #[.string ⟨#[112, 117, 98, 108, 105, 115, 104]⟩, .string ⟨#[115, 101, 97, 108]⟩, .string ⟨#[104, 101, 97, 100]⟩, .string ⟨#[110, 101, 120, 116]⟩, .string ⟨#[114, 101, 99, 101, 105, 112, 116]⟩, .string ⟨#[97, 117, 100, 105, 116]⟩, .string ⟨#[103, 111, 115, 115, 105, 112]⟩]
theorem actCells_at (k : Int) (h0 : 1 ≤ k) (h1 : k ≤ 7) : actCells[k.toNat - 1]? = some (.string (actName k)) := by
  have h : k = 1 ∨ k = 2 ∨ k = 3 ∨ k = 4 ∨ k = 5 ∨ k = 6 ∨ k = 7 := by omega
  rcases h with rfl | rfl | rfl | rfl | rfl | rfl | rfl <;> rfl
set_option maxHeartbeats 2000000 in
theorem specShowEvent_any (d : EventD) (w : World) (hd : d.Ok) : Calls Tryd.prog 5 #[.agg #[.int .i64 d.kind, .int .i64 d.who, .int .i64 d.leaf, .int .i64 d.code]] w fun e w' => e = .returned (.string (evLine d)) ∧ Ext w w' := by
  have K := Blk.new w 25 #[.int .i64 d.kind, .int .i64 d.who, .int .i64 d.leaf, .int .i64 d.code]
  have he := Ext.new (Below.refl w.heap.size w) (.cells #[.int .i64 d.kind, .int .i64 d.who, .int .i64 d.leaf, .int .i64 d.code] 25)
  replace K := K.alloc (.cells actCells 9)
  replace he := he.new (.cells actCells 9)
  have N := Blk.new (w.alloc (.cells #[.int .i64 d.kind, .int .i64 d.who, .int .i64 d.leaf, .int .i64 d.code] 25)) 9 actCells
  rw [World.size_alloc] at N
  obtain ⟨rc, rf⟩ := K.rules
  obtain ⟨hc0, hc1⟩ := EventD.ok_code hd
  obtain ⟨hl0, hl1⟩ := EventD.ok_leaf hd
  have HL := Lib.hid (decT_size d.leaf hl0 hl1)
  have HC := Lib.hid (decT_size d.code hc0 hc1)
  have HA := Lib.hid (actName_size d.kind)
  have HE := Lib.hid (show evLine d = if evOn d then actName d.kind ++ ⟨#[32]⟩ ++ decT d.code ++ ⟨#[32]⟩ ++ decT d.leaf else actName d.kind ++ ⟨#[32]⟩ ++ decT d.code from rfl)
  cases b : inR d.kind 1 7
  · have hout : d.kind < 1 ∨ 7 < d.kind := by simp only [inR, Bool.and_eq_false_iff, decide_eq_false_iff_not] at b; omega
    rw [actName_out d.kind hout] at HA HE
    have z1 : ¬ 9223372036854775807 < (⟨#[110, 111, 110, 101]⟩ : ByteArray).size + 1 := by have := HA.out; have := HC.out; have := HL.out; omega
    have z2 : ¬ 9223372036854775807 < (⟨#[110, 111, 110, 101]⟩ : ByteArray).size + 1 + (decT d.code).size := by have := HA.out; have := HC.out; have := HL.out; omega
    have z3 : ¬ 9223372036854775807 < (⟨#[110, 111, 110, 101]⟩ : ByteArray).size + 1 + (decT d.code).size + 1 := by have := HA.out; have := HC.out; have := HL.out; omega
    have z4 : ¬ 9223372036854775807 < (⟨#[110, 111, 110, 101]⟩ : ByteArray).size + 1 + (decT d.code).size + 1 + (decT d.leaf).size := by have := HA.out; have := HC.out; have := HL.out; omega
    have y1 : ¬ 9223372036854775807 < (⟨#[110, 111, 110, 101]⟩ : ByteArray).size + (⟨#[32]⟩ : ByteArray).size := z1
    have y2 : ¬ 9223372036854775807 < ((⟨#[110, 111, 110, 101]⟩ : ByteArray) ++ (⟨#[32]⟩ : ByteArray)).size + (decT d.code).size := by rw [ByteArray.size_append]; exact z2
    have y3 : ¬ 9223372036854775807 < ((⟨#[110, 111, 110, 101]⟩ : ByteArray) ++ (⟨#[32]⟩ : ByteArray) ++ (decT d.code)).size + 1 := by rw [ByteArray.size_append, ByteArray.size_append]; exact z3
    have y4 : ¬ 9223372036854775807 < ((⟨#[110, 111, 110, 101]⟩ : ByteArray) ++ (⟨#[32]⟩ : ByteArray) ++ (decT d.code)).size + (⟨#[32]⟩ : ByteArray).size := y3
    have y5 : ¬ 9223372036854775807 < ((⟨#[110, 111, 110, 101]⟩ : ByteArray) ++ (⟨#[32]⟩ : ByteArray) ++ (decT d.code) ++ (⟨#[32]⟩ : ByteArray)).size + (decT d.leaf).size := by rw [ByteArray.size_append, ByteArray.size_append, ByteArray.size_append]; exact z4
    clear N
    simp only [actCells] at K he rc rf
    go_enter Tryd.func5, Tryd.ntmps5
    go_wp2_with (go_at_call 13; refine (l01In_any _ _ _ _).mono ?_; rintro e w' ⟨rfl, rfl⟩; rw [b])
    refine (specDecimal_any d.code _ hc0 hc1).mono ?_
    rintro e w1 ⟨rfl, h1⟩
    replace K := K.ext h1; replace he := he.next h1; clear h1 rc rf
    obtain ⟨rc, rf⟩ := K.rules
    cases q0 : (d.code == 0)
    · have E := Lib.hid (show evLine d = (⟨#[110, 111, 110, 101]⟩ : ByteArray) ++ ⟨#[32]⟩ ++ decT d.code by rw [HE.out, if_neg (by simp [evOn, q0])])
      go_wp2_with fail
      go_ret
      exact ⟨dec_str E.out.symm, he⟩
    cases q1 : (d.kind == 1) <;> cases q4 : (d.kind == 4) <;> cases q6 : (d.kind == 6)
    case false.false.false =>
      have E := Lib.hid (show evLine d = (⟨#[110, 111, 110, 101]⟩ : ByteArray) ++ ⟨#[32]⟩ ++ decT d.code by rw [HE.out, if_neg (by simp [evOn, q1, q4, q6])])
      go_wp2_with fail
      go_ret
      exact ⟨dec_str E.out.symm, he⟩
    all_goals
      have E := Lib.hid (show evLine d = (⟨#[110, 111, 110, 101]⟩ : ByteArray) ++ ⟨#[32]⟩ ++ decT d.code ++ ⟨#[32]⟩ ++ decT d.leaf by rw [HE.out, if_pos (by simp [evOn, q0, q1, q4, q6])])
      go_wp2_with fail
      refine (specDecimal_any d.leaf _ hl0 hl1).mono ?_
      rintro e w9 ⟨rfl, h1⟩
      replace he := he.next h1; clear h1 rc rf K
      go_wp2_with fail
      go_ret
      exact ⟨dec_str E.out.symm, he⟩
  · obtain ⟨k1, k7⟩ := inR_true b
    have z1 : ¬ 9223372036854775807 < (actName d.kind).size + 1 := by have := HA.out; have := HC.out; have := HL.out; omega
    have z2 : ¬ 9223372036854775807 < (actName d.kind).size + 1 + (decT d.code).size := by have := HA.out; have := HC.out; have := HL.out; omega
    have z3 : ¬ 9223372036854775807 < (actName d.kind).size + 1 + (decT d.code).size + 1 := by have := HA.out; have := HC.out; have := HL.out; omega
    have z4 : ¬ 9223372036854775807 < (actName d.kind).size + 1 + (decT d.code).size + 1 + (decT d.leaf).size := by have := HA.out; have := HC.out; have := HL.out; omega
    have y1 : ¬ 9223372036854775807 < (actName d.kind).size + (⟨#[32]⟩ : ByteArray).size := z1
    have y2 : ¬ 9223372036854775807 < ((actName d.kind) ++ (⟨#[32]⟩ : ByteArray)).size + (decT d.code).size := by rw [ByteArray.size_append]; exact z2
    have y3 : ¬ 9223372036854775807 < ((actName d.kind) ++ (⟨#[32]⟩ : ByteArray) ++ (decT d.code)).size + 1 := by rw [ByteArray.size_append, ByteArray.size_append]; exact z3
    have y4 : ¬ 9223372036854775807 < ((actName d.kind) ++ (⟨#[32]⟩ : ByteArray) ++ (decT d.code)).size + (⟨#[32]⟩ : ByteArray).size := y3
    have y5 : ¬ 9223372036854775807 < ((actName d.kind) ++ (⟨#[32]⟩ : ByteArray) ++ (decT d.code) ++ (⟨#[32]⟩ : ByteArray)).size + (decT d.leaf).size := by rw [ByteArray.size_append, ByteArray.size_append, ByteArray.size_append]; exact z4
    have N0 := (N.cell (d.kind.toNat - 1)).trans (actCells_at d.kind k1 k7)
    clear N
    simp only [actCells] at K he rc rf N0
    go_enter Tryd.func5, Tryd.ntmps5
    go_wp2_with (go_at_call 13; refine (l01In_any _ _ _ _).mono ?_; rintro e w' ⟨rfl, rfl⟩; rw [b])
    refine (specDecimal_any d.code _ hc0 hc1).mono ?_
    rintro e w1 ⟨rfl, h1⟩
    replace K := K.ext h1; replace he := he.next h1; clear h1 rc rf N0
    obtain ⟨rc, rf⟩ := K.rules
    cases q0 : (d.code == 0)
    · have E := Lib.hid (show evLine d = actName d.kind ++ ⟨#[32]⟩ ++ decT d.code by rw [HE.out, if_neg (by simp [evOn, q0])])
      go_wp2_with fail
      go_ret
      exact ⟨dec_str E.out.symm, he⟩
    cases q1 : (d.kind == 1) <;> cases q4 : (d.kind == 4) <;> cases q6 : (d.kind == 6)
    case false.false.false =>
      have E := Lib.hid (show evLine d = actName d.kind ++ ⟨#[32]⟩ ++ decT d.code by rw [HE.out, if_neg (by simp [evOn, q1, q4, q6])])
      go_wp2_with fail
      go_ret
      exact ⟨dec_str E.out.symm, he⟩
    all_goals
      have E := Lib.hid (show evLine d = actName d.kind ++ ⟨#[32]⟩ ++ decT d.code ++ ⟨#[32]⟩ ++ decT d.leaf by rw [HE.out, if_pos (by simp [evOn, q0, q1, q4, q6])])
      go_wp2_with fail
      refine (specDecimal_any d.leaf _ hl0 hl1).mono ?_
      rintro e w9 ⟨rfl, h1⟩
      replace he := he.next h1; clear h1 rc rf K
      go_wp2_with fail
      go_ret
      exact ⟨dec_str E.out.symm, he⟩
end Go.Proofs.YteaphajagmbllaaDoor

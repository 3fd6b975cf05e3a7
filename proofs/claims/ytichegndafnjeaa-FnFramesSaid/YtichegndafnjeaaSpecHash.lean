/-
  The reference's hash: walks. No condition.
-/
import Derived.Test.YtichegndafnjeaaHashTop
namespace Go.Proofs.Ytichegndafnjeaa
open Go.RowKit
set_option linter.unusedVariables false

theorem info_u32 : (Try.prog.info? 104).map (fun i => (i.zero, i.size, i.bytes)) = some (some (.int .u32 0), 1, 4) := by kernel_rfl
theorem info_u8 : (Try.prog.info? 5).map (fun i => (i.zero, i.size, i.bytes)) = some (some (.int .u8 0), 1, 1) := by kernel_rfl
def wvals (l : List Int) : List Value := l.map wcell
theorem wvals_len (l : List Int) : (wvals l).length = l.length := by simp [wvals]
theorem wvals_snoc (l : List Int) (x : Int) : wvals l ++ [.int .u32 x] = wvals (l ++ [x]) := by simp [wvals, wcell]
theorem wvals_flat (l : List Int) : l.flatMap wcells = wvals l := wcells_flat l
theorem wvals_get {l : List Int} {i : Nat} (h : i < l.length) : (wvals l)[i]? = some (.int .u32 (gw l i)) := by simp [wvals, List.getElem?_map, gw_get h, wcell]
/-- A result that is a row of words of the call's own. -/
def OwnW (W w : World) (v : Value) (l : List Int) : Prop := w.ownsRow W.heap.size 104 1 v l.length (wvals l)

set_option maxHeartbeats 2000000 in
set_option maxRecDepth 100000 in
theorem StartOf_any (tag : Int) (w : World) (h : inR tag 0 255 = true) :
    Calls Try.prog 108 #[.int .i64 tag] w fun e w' => ∃ v, e = .returned (.tuple #[v, .bool true]) ∧ OwnW w w' v (startW tag) ∧ Ext w w' := by
  obtain ⟨i0, hi, hz0, hz1, hz2⟩ := info_parts info_u32
  obtain ⟨t0, t1⟩ := inR_true h
  go_enter Try.func108, Try.ntmps108
  go_wp2_with (go_at_call 45; refine (l01In_any _ _ _ _).mono ?_; rintro e w' ⟨rfl, rfl⟩)
  obtain ⟨B, hB⟩ : ∃ B, B = w.heap.size := ⟨_, rfl⟩
  have H0 := Lib.hid (ownsRow_empty w 104 1)
  have HE := Lib.hid (Ext.new (Below.refl w.heap.size w) (.cells #[] 104))
  rw [← hB] at H0
  rw [← hB]
  have Hb : w.heap.size ≤ B := by omega
  have HB := Lib.hid hB
  clear hB
  go_loopw [4, 5] (fun v x wr => ∃ i : Nat, i ≤ 8 ∧ x = .int .i64 i ∧ wr.ownsRow B 104 1 v i (wvals ((startW tag).take i)) ∧ Ext w wr) (fun _ x _ => 8 - (intOf x).toNat)
  case atStart => exact ⟨0, by omega, rfl, H0.out, HE.out⟩
  case round =>
    clear H0 HE
    obtain ⟨i, hi8, rfl, hown, he⟩ := hrel
    obtain ⟨A, c, rfl, hnc⟩ := ownsRow_form hown
    have KO := Lib.hid hown
    clear hown
    by_cases hlt : i < 8
    · have hB2 : B ≤ wr.heap.size := by have := he.size; have := HB.out; omega
      have hnext : wvals ((startW tag).take i) ++ [.int .u32 (startAt tag i)] = wvals ((startW tag).take (i + 1)) := by
        rw [List.take_succ_eq_append_getElem (by rw [startW_len]; omega), wvals_snoc]
        simp [startW]
      have Hn := Lib.hid hnext
      clear hnext
      go_wp2_with (at_builtin; refine wpList_append_own _ rfl _ _ 156 rfl B 104 i0 (.int .u32 0) 1 4 Try.underlying156 hi hz0 hz1 hz2 rfl (by decide) _ _ _ rfl (KO.out.alloc _) ⟨wr.heap.size, 0, none⟩ 1 1 [.int .u32 (startAt tag i)] rfl rfl ?c1 ?c2 ?c3 ?c4 ?c5 ?_)
      case c1 => exact one_at _ _ _
      case c2 => exact one_cell rfl
      case c3 => unfold maxLen; omega
      case c4 => omega
      case c5 => simp; omega
      intro v' w1 hown' hgrow _
      have he1 := Ext.ownGrown (Ext.new he _) (KO.out.alloc _) hgrow Hb
      rw [Hn.out] at hown'
      have KO' := Lib.hid hown'
      clear hown' hgrow KO he
      go_wp2_with fail
      go_roundw
      case rel => exact ⟨i + 1, by omega, by go_num, KO'.out, he1⟩
      case measure => simp [intOf]; omega
    · have hi8' : i = 8 := by omega
      have hd8 : decide ((i : Int) < 8) = false := by rw [decide_eq_false_iff_not]; omega
      have hfin : OwnW w wr (.slice A i c) (startW tag) := by
        have := KO.out
        rw [hi8', List.take_of_length_le (by rw [startW_len]; omega), HB.out] at this
        unfold OwnW
        rw [startW_len, hi8']
        exact this
      have HF := Lib.hid hfin
      clear hfin hi8' KO
      go_wp2_with fail
      go_ret2
      exact ⟨_, rfl, HF.out, he⟩
end Go.Proofs.Ytichegndafnjeaa

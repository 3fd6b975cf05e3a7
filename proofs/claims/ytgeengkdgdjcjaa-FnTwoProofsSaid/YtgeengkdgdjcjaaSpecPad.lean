/-
  SpecPad: No condition.
-/
import Derived.Test.YtgeengkdgdjcjaaSpecHash
namespace Go.Proofs.Ytgeengkdgdjcjaa
set_option maxHeartbeats 2000000
set_option maxRecDepth 100000
set_option linter.unusedSimpArgs false
open Go.RowKit
set_option linter.unusedVariables false
theorem l02Width_any (n : Int) (w : World) : Calls Try.prog 33 #[.int .i64 n] w fun e w' => e = .returned (.bool (inR n 1 32)) ∧ w = w' := by
 go_enter Try.func33, Try.ntmps33
 go_wp2_with (go_at_call 22; refine (l01In_any _ _ _ _).mono ?_; rintro e w' ⟨rfl, rfl⟩)
 go_ret
 exact ⟨rfl, rfl⟩
def wordsT (T : ByteArray) (n : Nat) : List Int := (List.range n).map fun i => wordI T (4 * i)
theorem wordsT_len (T : ByteArray) (n : Nat) : (wordsT T n).length = n := by simp [wordsT]
theorem wordsT_succ (T : ByteArray) (n : Nat) : wordsT T n ++ [wordI T (4 * n)] = wordsT T (n + 1) := by simp [wordsT, List.range_succ]
theorem WordsOf_any (T : ByteArray) (n : Nat) (w : World) (hn : T.size = 4 * n) (hT : T.size ≤ 4000) :
 Calls Try.prog 55 #[.string T] w fun e w' => ∃ v, e = .returned (.tuple #[v, .bool true]) ∧ OwnW w w' v (wordsT T n) ∧ Ext w w' := by
 obtain ⟨i0, hi, hz0, hz1, hz2⟩ := info_parts info_u32
 have hN := hU hn
 have hd0 : decide ((4000 : Int) < (T.size : Int)) = false := by rw [decide_eq_false_iff_not]; omega
 have hm4 : (T.size : Int) % 4 = 0 := by omega
 have hle : n ≤ 1000 := by omega
 clear hn
 go_enter Try.func55, Try.ntmps55
 go_wp2_with fail
 obtain ⟨B, hB⟩ : ∃ B, B = w.heap.size := ⟨_, rfl⟩
 have H0 := hU (ownsRow_empty w 81 1)
 have HE := hU (Ext.new (Below.refl w.heap.size w) (.cells #[] 81))
 rw [← hB] at H0
 rw [← hB]
 have Hb : w.heap.size ≤ B := by omega
 have HB := hU hB
 clear hB hm4
 go_loopw [4, 5] (fun v x wr => ∃ i : Nat, i ≤ n ∧ x = .int .i64 (4 * (i : Int)) ∧ wr.ownsRow B 81 1 v i (wvals (wordsT T i)) ∧ Ext w wr) (fun _ x _ => T.size - (intOf x).toNat)
 case atStart => exact ⟨0, by omega, rfl, H0.out, HE.out⟩
 case round =>
  clear H0 HE
  obtain ⟨i, hi8, rfl, hown, he⟩ := hrel
  obtain ⟨A, c, rfl, hnc⟩ := ownsRow_form hown
  have KO := hU hown
  clear hown
  by_cases hlt : i < n
  · have hB2 : B ≤ wr.heap.size := by have := he.size; have := HB.out; omega
    have hdl : decide (4 * (i : Int) < (T.size : Int)) = true := by rw [decide_eq_true_eq]; have := hN.out; omega
    obtain ⟨y, hy⟩ : ∃ y, y = wordI T (4 * i) := ⟨_, rfl⟩
    have hnext : wvals (wordsT T i) ++ [.int .u32 y] = wvals (wordsT T (i + 1)) := by rw [hy, wvals_snoc, wordsT_succ]
    have Hn := hU hnext
    have Hy := hU (show wordI T (4 * (i : Int)).toNat = y by rw [hy, show (4 * (i : Int)).toNat = 4 * i by omega])
    have h4 : 4 * i + 4 ≤ T.size := by have := hN.out; omega
    clear hnext hy
    go_wp2_with fail
    refine (specWordAtI_any T (4 * (i : Int)) _ (by omega) (by omega) (by omega)).mono ?_
    rintro e w1 ⟨rfl, rfl⟩
    rw [Hy.out]
    go_wp2_with (at_builtin; refine wpList_append_own _ rfl _ _ 72 rfl B 81 i0 (.int .u32 0) 1 4 Try.underlying72 hi hz0 hz1 hz2 rfl (by decide) _ _ _ rfl (KO.out.alloc _) ⟨wr.heap.size, 0, none⟩ 1 1 [.int .u32 y] rfl rfl ?c1 ?c2 ?c3 ?c4 ?c5 ?_)
    case c1 => exact one_at _ _ _
    case c2 => exact one_cell rfl
    case c3 => unfold maxLen; omega
    case c4 => omega
    case c5 => simp; omega
    intro v' w1 hown' hgrow _
    have he1 := Ext.ownGrown (Ext.new he _) (KO.out.alloc _) hgrow Hb
    rw [Hn.out] at hown'
    have KO' := hU hown'
    clear hown' hgrow KO he
    go_wp2_with fail
    go_roundw
    case rel => exact ⟨i + 1, by omega, by go_num, KO'.out, he1⟩
    case measure => simp [intOf]; omega
  · have hi8' : i = n := by omega
    have hd8 : decide (4 * (i : Int) < (T.size : Int)) = false := by rw [decide_eq_false_iff_not]; have := hN.out; omega
    have hfin : OwnW w wr (.slice A i c) (wordsT T n) := by
     have := KO.out
     rw [hi8', HB.out] at this
     unfold OwnW
     rw [wordsT_len, hi8']
     exact this
    have HF := hU hfin
    clear hfin hi8' KO
    go_wp2_with fail
    go_ret2
    exact ⟨_, rfl, HF.out, he⟩
end Go.Proofs.Ytgeengkdgdjcjaa

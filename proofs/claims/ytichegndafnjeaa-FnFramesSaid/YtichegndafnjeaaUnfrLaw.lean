/-
  A frame by the reference's test and by the program's: plain laws. No condition.
-/
import Derived.Test.YtichegndafnjeaaUnfr
namespace Go.Proofs.Ytichegndafnjeaa
open Go.RowKit
set_option linter.unusedVariables false

theorem fa_bad {T : ByteArray} {p : Nat} (h : faOk T p = true) : p + 6 + faN T p ≤ T.size := by
  obtain ⟨h1, h2, _⟩ := faOk_pos h
  omega
theorem fa_some {T : ByteArray} {p : Nat} (h : p + 6 ≤ T.size) : fa1 T p = ⟨p + 2, false⟩ ∧ fa2 T p = ⟨p + 6, false⟩ ∧ rdTake T (fa0 p) 2 = T.extract p (p + 2) ∧ faSum T p = T.extract (p + 2) (p + 6) := by
  have f0 : rdFails T (fa0 p) 2 = false := by
    show (false || decide ((T.size : Int) - (p : Int) < ((2 : Nat) : Int))) = false
    rw [Bool.false_or, decide_eq_false_iff_not]; omega
  have e1 : fa1 T p = ⟨p + 2, false⟩ := by simp [fa1, rdNext, f0]; rfl
  have f1 : rdFails T ⟨p + 2, false⟩ 4 = false := by simp [rdFails]; omega
  refine ⟨e1, ?_, by simp [rdTake, f0]; rfl, ?_⟩
  · rw [fa2, e1]; simp [rdNext, f1]
  · rw [faSum, e1]; simp [rdTake, f1]
theorem fa_all {T : ByteArray} {p : Nat} (h : p + 6 + faN T p ≤ T.size) : (fa3 T p).bad = false ∧ faText T p = T.extract (p + 6) (p + 6 + faN T p) := by
  obtain ⟨e1, e2, e3, e4⟩ := fa_some (T := T) (p := p) (by omega)
  have f2 : rdFails T ⟨p + 6, false⟩ (faN T p) = false := by simp [rdFails]; omega
  refine ⟨?_, ?_⟩
  · rw [fa3, e2]; simp [rdNext, f2]
  · rw [faText, e2]; simp [rdTake, f2]
theorem beNum_two (b : ByteArray) (h : b.size = 2) : beNum b = 256 * (b[0]'(by omega)).toNat + (b[1]'(by omega)).toNat := by
  obtain ⟨⟨l⟩⟩ := b
  match l, h with
  | [c, d], _ => simp [beNum]; rfl
theorem faN_two {T : ByteArray} {p : Nat} (h : p + 6 ≤ T.size) : faN T p = 256 * (T[p]'(by omega)).toNat + (T[p + 1]'(by omega)).toNat := by
  have hs : (T.extract p (p + 2)).size = 2 := by rw [ByteArray.size_extract]; omega
  rw [faN, (fa_some h).2.2.1, beNum_two _ hs, ByteArray.getElem_extract, ByteArray.getElem_extract]
  rfl
theorem fa_test {T : ByteArray} {p : Nat} (h : p + 6 + faN T p ≤ T.size) : faOk T p = (inR (faN T p) 1 1000 && ((frameOut (faText T p)).toList == (T.extract p (p + 6 + faN T p)).toList)) := by
  obtain ⟨e1, e2, e3, e4⟩ := fa_some (T := T) (p := p) (by omega)
  obtain ⟨b1, b2⟩ := fa_all h
  have hs : (faText T p).size = faN T p := by rw [b2, ByteArray.size_extract]; omega
  simp only [faOk, b1, Bool.not_false, Bool.true_and]
  cases hin : inR (faN T p) 1 1000
  · rfl
  · simp only [Bool.true_and]
    rw [bytes_beq, bytes_beq, frameOut, hs, hin, if_pos rfl]
    have hd : (digest 4 4 (faText T p)).size = 4 := dig4_size (by rw [hs]; exact hin)
    have h2 : lowB (faText T p).size 2 = T.extract p (p + 2) := by
      rw [lowB_two, hs]
      have := two_of (rdTake T (fa0 p) 2) (by rw [e3, ByteArray.size_extract]; omega)
      rw [← e3]; exact this
    have h3 : T.extract p (p + 6 + faN T p) = T.extract p (p + 2) ++ (faSum T p) ++ faText T p := by
      rw [e4, b2, ← ByteArray.extract_eq_extract_append_extract (p + 2) (by omega) (by omega), ← ByteArray.extract_eq_extract_append_extract (p + 6) (by omega) (by omega)]
    rw [frameB, h2, h3, decide_eq_decide]
    have hsum : (faSum T p).size = 4 := by rw [e4, ByteArray.size_extract]; omega
    constructor
    · intro he; rw [he]
    · intro he
      have h5 := ByteArray.append_inj_left he (by simp [ByteArray.size_append, hd, hsum])
      have h6 := congrArg (fun x : ByteArray => x.data.toList) h5
      simp only [ByteArray.data_append, Array.toList_append, List.append_cancel_left_eq] at h6
      exact ByteArray.ext (Array.toList_inj.1 h6)
end Go.Proofs.Ytichegndafnjeaa

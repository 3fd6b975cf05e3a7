/-
  Texts that are read, and made again. No condition, no program.
-/
import Derived.Test.YtichegndafnjeaaTexts
import Derived.Test.YtichegndafnjeaaEqs
namespace Go.Proofs.Ytichegndafnjeaa
open Go.RowKit
set_option linter.unusedVariables false

/-- What was read so far. -/
def Sofar (T : ByteArray) (r : Rd) (X : ByteArray) : Prop := r.bad = false → T.extract 0 r.pos = X ∧ r.pos ≤ T.size
theorem Sofar.start (T : ByteArray) : Sofar T ⟨0, false⟩ ⟨#[]⟩ := fun _ => ⟨by simp; rfl, Nat.zero_le _⟩
theorem rdNext_ok {T : ByteArray} {r : Rd} {n : Nat} (h : (rdNext T r n).bad = false) : r.bad = false ∧ (rdNext T r n).pos = r.pos + n ∧ r.pos + n ≤ T.size ∧ rdTake T r n = T.extract r.pos (r.pos + n) := by
  unfold rdNext at h ⊢
  unfold rdTake
  cases hf : rdFails T r n
  · simp only [rdFails, Bool.or_eq_false_iff, decide_eq_false_iff_not] at hf
    exact ⟨hf.1, rfl, by omega, rfl⟩
  · rw [hf] at h; simp at h
theorem Sofar.take {T : ByteArray} {r : Rd} {X : ByteArray} (h : Sofar T r X) (n : Nat) : Sofar T (rdNext T r n) (X ++ rdTake T r n) := by
  intro hb
  obtain ⟨h1, h2, h3, h4⟩ := rdNext_ok hb
  obtain ⟨h5, h6⟩ := h h1
  refine ⟨?_, by omega⟩
  rw [h2, h4, ← h5]
  exact ByteArray.extract_eq_extract_append_extract r.pos (Nat.zero_le _) (by omega)
theorem rdTake_full {T : ByteArray} {r : Rd} {n : Nat} (h : (rdNext T r n).bad = false) : (rdTake T r n).size = n := by
  obtain ⟨h1, h2, h3, h4⟩ := rdNext_ok h
  rw [h4, ByteArray.size_extract]; omega
theorem ofNat_mod (m : Nat) (c : UInt8) (h : m % 256 = c.toNat) : UInt8.ofNat m = c := by
  apply UInt8.toNat_inj.1
  rw [UInt8.toNat_ofNat']
  have := c.toNat_lt
  show m % 256 = _
  omega
theorem one_of (b : ByteArray) (h : b.size = 1) : octB (beNum b : Int) = b := by
  obtain ⟨⟨l⟩⟩ := b
  match l, h with
  | [c], _ =>
    simp only [beNum, octB, ofInts, List.foldl_cons, List.foldl_nil, List.map_cons, List.map_nil]
    rw [ofNat_mod _ c (by have := c.toNat_lt; omega)]
theorem two_of (b : ByteArray) (h : b.size = 2) : octB ((beNum b : Int) / 256) ++ octB (beNum b : Int) = b := by
  obtain ⟨⟨l⟩⟩ := b
  match l, h with
  | [c, d], _ =>
    simp only [beNum, octB, ofInts, List.foldl_cons, List.foldl_nil, List.map_cons, List.map_nil]
    rw [ofNat_mod _ c (by have := c.toNat_lt; have := d.toNat_lt; omega), ofNat_mod _ d (by have := c.toNat_lt; have := d.toNat_lt; omega)]
    rfl
theorem lenB (b x : ByteArray) (h : b.size = 1) (hx : x.size = beNum b) : octB (x.size : Int) = b := by rw [hx, one_of b h]
/-- The text that was told and the text that is made again of what was read. -/
theorem reread {T K k X : ByteArray} {r : Rd} (h : Sofar T r (K ++ X)) (hb : r.bad = false) (hs : K.size = k.size) : (decide (K = k) && rdDone T r) = decide (k ++ X = T) := by
  obtain ⟨h1, h2⟩ := h hb
  rw [Bool.eq_iff_iff]
  simp only [rdDone, hb, Bool.and_eq_true, decide_eq_true_eq, Bool.not_false, true_and]
  constructor
  · rintro ⟨rfl, h3⟩
    rw [← h1, h3]; exact ByteArray.extract_zero_size
  · intro h3
    have h4 := congrArg ByteArray.size h1
    have h5 := congrArg ByteArray.size h3
    rw [ByteArray.size_extract] at h4
    rw [ByteArray.size_append] at h4 h5
    have h6 : r.pos = T.size := by omega
    refine ⟨?_, h6⟩
    have h7 : K ++ X = k ++ X := by rw [← h1, h3, h6]; exact ByteArray.extract_zero_size
    exact ByteArray.append_inj_left h7 hs
theorem reread_bad {T : ByteArray} {r : Rd} (hb : r.bad = true) : rdDone T r = false := by simp [rdDone, hb]
theorem rdShortNext_ok {T : ByteArray} {r : Rd} {n : Nat} (h : (rdShortNext T r n).bad = false) : r.bad = false ∧ (rdNext T r n).bad = false ∧ (rdTake T r n).size = n ∧ (rdShort T r n).size = beNum (rdTake T r n) := by
  have h1 : (rdNext T r n).bad = false := (rdNext_ok h).1
  exact ⟨(rdNext_ok h1).1, h1, rdTake_full h1, rdTake_full h⟩
theorem bytes_beq (a b : ByteArray) : (a.toList == b.toList) = decide (a = b) := by
  rw [Bool.eq_iff_iff]; simp [bytes_eq_iff]
theorem kind_of (b : ByteArray) (c : UInt8) : (b.toList == [c]) = decide (b = ⟨#[c]⟩) := by
  have h : (⟨#[c]⟩ : ByteArray).toList = [c] := by rw [ByteArray.toList_eq]
  have h2 := bytes_beq b ⟨#[c]⟩
  rw [h] at h2
  exact h2
end Go.Proofs.Ytichegndafnjeaa

/-
  MeetLaw: No condition.
-/
import Derived.Test.YtgeengkdgdjcjaaPre
namespace Go.Proofs.Ytgeengkdgdjcjaa
set_option linter.unusedSimpArgs false
open Go.RowKit
set_option linter.unusedVariables false
def clashP (n : Int) (a b : PreD) : Bool := digestOk n b.tag b.text && ((digest n a.tag a.text).toList == (digest n b.tag b.text).toList) && !(a.eqb b)
def clashB (n : Int) (l : List PreD) (k i : Nat) : Bool := match l[i]?, l[k]? with | some a, some b => clashP n a b | _, _ => false
def meetAt (n : Int) (l : List PreD) (k : Nat) : Option (Nat × Nat) := ((List.range k).find? (clashB n l k)).map (·, k)
def meetGo (n : Int) (l : List PreD) : Nat → Nat → Option (Nat × Nat)
 | 0, _ => none
 | f + 1, k => match meetAt n l k with | some x => some x | none => meetGo n l f (k + 1)
def meet (n : Int) (l : List PreD) : Option (Nat × Nat) := if inR n 1 32 && decide (l.length ≤ 6000) then meetGo n l l.length 0 else none
def hasH (n : Int) (l : List PreD) (h : ByteArray) (i : Nat) : Bool := match l[i]? with | some a => digestOk n a.tag a.text && ((digest n a.tag a.text).toList == h.toList) | none => false
def firstAt (n : Int) (l : List PreD) (h : ByteArray) (k : Nat) : Option Nat := (List.range k).find? (hasH n l h)
theorem meetAt_none {n : Int} {l : List PreD} {k : Nat} : meetAt n l k = none ↔ ∀ i, i < k → clashB n l k i = false := by
 simp [meetAt, List.find?_eq_none]
theorem meetAt_bad {n : Int} {l : List PreD} {k : Nat} {b : PreD} (hb : l[k]? = some b) (h : digestOk n b.tag b.text = false) : meetAt n l k = none := by
 rw [meetAt_none]
 intro i _
 unfold clashB
 rw [hb]
 cases l[i]? <;> simp [clashP, h]
theorem digest_ok_iff (n tag : Int) (T : ByteArray) : digestOk n tag T = true ↔ (digest n tag T).size ≠ 0 := by
 constructor
 · intro h
   rw [digest_size h]
   have : inR n 1 32 = true := by simp only [digestOk, Bool.and_eq_true] at h; exact h.1.1
   have := inR_true this
   omega
 · intro h
   cases b : digestOk n tag T
   · exact absurd (by simp [digest, b]; rfl) h
   · rfl
theorem same_ok {n : Int} {a b : PreD} (h : ((digest n a.tag a.text).toList == (digest n b.tag b.text).toList) = true) : digestOk n a.tag a.text = digestOk n b.tag b.text := by
 have h2 : digest n a.tag a.text = digest n b.tag b.text := by simpa [bytes_eq_iff] using h
 rw [Bool.eq_iff_iff, digest_ok_iff, digest_ok_iff, h2]
theorem clash_of {n : Int} {l : List PreD} {k i : Nat} {a b : PreD} (ha : l[i]? = some a) (hb : l[k]? = some b) : clashB n l k i = clashP n a b := by
 unfold clashB; rw [ha, hb]
theorem hash_of {n : Int} {l : List PreD} {h : ByteArray} {i : Nat} {a : PreD} (ha : l[i]? = some a) : hasH n l h i = (digestOk n a.tag a.text && ((digest n a.tag a.text).toList == h.toList)) := by
 unfold hasH; rw [ha]
theorem meetAt_new {n : Int} {l : List PreD} {k : Nat} {b : PreD} (hb : l[k]? = some b) (hok : digestOk n b.tag b.text = true) (h : firstAt n l (digest n b.tag b.text) k = none) : meetAt n l k = none := by
 rw [meetAt_none]
 intro i hi
 have hk : k < l.length := (List.getElem?_eq_some_iff.1 hb).1
 have ha : l[i]? = some l[i] := List.getElem?_eq_getElem (by omega)
 have h2 : hasH n l (digest n b.tag b.text) i = false := by
  have := List.find?_eq_none.1 h i (List.mem_range.2 hi)
  simpa using this
 rw [clash_of ha hb]
 rw [hash_of ha] at h2
 cases hs : ((digest n l[i].tag l[i].text).toList == (digest n b.tag b.text).toList)
 · simp [clashP, hs]
 · rw [hs, same_ok hs, hok] at h2; cases h2
theorem first_parts {n : Int} {l : List PreD} {h : ByteArray} {k i : Nat} (hf : firstAt n l h k = some i) : hasH n l h i = true ∧ i < k ∧ ∀ j, j < i → hasH n l h j = false := by
 obtain ⟨h1, h2, h3⟩ := List.find?_range_eq_some.1 hf
 exact ⟨h1, List.mem_range.1 h2, fun j hj => by simpa using h3 j hj⟩
theorem hash_eq {n : Int} {a b : PreD} : ((digest n a.tag a.text).toList == (digest n b.tag b.text).toList) = true ↔ digest n a.tag a.text = digest n b.tag b.text := by simp [bytes_eq_iff]
theorem meetAt_old {n : Int} {l : List PreD} {k i : Nat} {a b : PreD} (hno : ∀ j, j < k → meetAt n l j = none) (hb : l[k]? = some b) (hok : digestOk n b.tag b.text = true) (hf : firstAt n l (digest n b.tag b.text) k = some i) (ha : l[i]? = some a) :
 (a.eqb b = true → meetAt n l k = none) ∧ (a.eqb b = false → meetAt n l k = some (i, k)) := by
 obtain ⟨h1, h2, h3⟩ := first_parts hf
 rw [hash_of ha, Bool.and_eq_true] at h1
 have hab := hash_eq.1 h1.2
 have hk : k < l.length := (List.getElem?_eq_some_iff.1 hb).1
 have before : ∀ j, j < i → clashB n l k j = false := fun j hj => by
  have hc : l[j]? = some l[j] := List.getElem?_eq_getElem (by omega)
  have := h3 j hj
  rw [hash_of hc] at this
  rw [clash_of hc hb]
  cases hs : ((digest n l[j].tag l[j].text).toList == (digest n b.tag b.text).toList)
  · simp [clashP, hs]
  · rw [hs, same_ok hs, hok] at this; cases this
 constructor
 · intro he
   obtain rfl := (PreD.eqb_iff a b).1 he
   rw [meetAt_none]
   intro j hj
   rcases Nat.lt_trichotomy j i with hji | hji | hji
   · exact before j hji
   · subst hji; rw [clash_of ha hb]; simp [clashP, he]
   · have hc : l[j]? = some l[j] := List.getElem?_eq_getElem (by omega)
     have h5 := meetAt_none.1 (hno j hj) i hji
     rw [clash_of ha hc] at h5
     rw [clash_of hc hb]
     cases hs : ((digest n l[j].tag l[j].text).toList == (digest n a.tag a.text).toList)
     · simp [clashP, hs]
     · have e := hash_eq.1 hs
       have e2 : ((digest n a.tag a.text).toList == (digest n l[j].tag l[j].text).toList) = true := hash_eq.2 e.symm
       rw [clashP, same_ok hs, hok, e2] at h5
       have h6 : a.eqb l[j] = true := by simpa using h5
       have h7 := (PreD.eqb_iff a l[j]).1 h6
       rw [← h7]; simp [clashP, PreD.eqb_self]
 · intro he
   have : (List.range k).find? (clashB n l k) = some i := List.find?_range_eq_some.2 ⟨by rw [clash_of ha hb, clashP, hok, h1.2, he]; rfl, List.mem_range.2 h2, fun j hj => by rw [before j hj]; rfl⟩
   rw [meetAt, this]; rfl
end Go.Proofs.Ytgeengkdgdjcjaa

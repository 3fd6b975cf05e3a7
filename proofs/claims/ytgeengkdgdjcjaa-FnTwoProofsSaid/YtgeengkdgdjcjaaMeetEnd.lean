/-
  MeetEnd: No condition.
-/
import Derived.Test.YtgeengkdgdjcjaaMeetLaw
namespace Go.Proofs.Ytgeengkdgdjcjaa
set_option linter.unusedSimpArgs false
open Go.RowKit
set_option linter.unusedVariables false
def pz : PreD := ⟨0, ⟨#[]⟩⟩
def meetA (n : Int) (l : List PreD) : PreD := match meet n l with | some (i, _) => l.getD i pz | none => pz
def meetB (n : Int) (l : List PreD) : PreD := match meet n l with | some (_, k) => l.getD k pz | none => pz
def meetOk (n : Int) (l : List PreD) : Bool := (meet n l).isSome
theorem meetGo_skip {n : Int} {l : List PreD} : ∀ (f k : Nat), (∀ j, k ≤ j → j < k + f → meetAt n l j = none) → meetGo n l f k = none
 | 0, k, h => rfl
 | f + 1, k, h => by
   rw [meetGo, h k (Nat.le_refl _) (by omega)]
   exact meetGo_skip f (k + 1) (fun j h1 h2 => h j (by omega) (by omega))
theorem meetGo_at {n : Int} {l : List PreD} {i k : Nat} (h : meetAt n l k = some (i, k)) : ∀ (f p : Nat), p ≤ k → k < p + f → (∀ j, p ≤ j → j < k → meetAt n l j = none) → meetGo n l f p = some (i, k)
 | 0, p, h0, h1, _ => absurd h1 (by omega)
 | f + 1, p, h0, h1, hno => by
   rw [meetGo]
   by_cases e : p = k
   · subst e; rw [h]
   · rw [hno p (Nat.le_refl _) (by omega)]
     exact meetGo_at h f (p + 1) (by omega) (by omega) (fun j a b => hno j (by omega) b)
def NoMeet (n : Int) (l : List PreD) (k : Nat) : Prop := ∀ j, j < k → meetAt n l j = none
theorem NoMeet.zero (n : Int) (l : List PreD) : NoMeet n l 0 := fun j h => absurd h (by omega)
theorem NoMeet.next {n : Int} {l : List PreD} {k : Nat} (h : NoMeet n l k) (h2 : meetAt n l k = none) : NoMeet n l (k + 1) := fun j hj => by
 by_cases e : j = k
 · rw [e]; exact h2
 · exact h j (by omega)
theorem NoMeet.all {n : Int} {l : List PreD} {k : Nat} (h : NoMeet n l k) (hk : l.length ≤ k) : meet n l = none := by
 unfold meet
 split
 · exact meetGo_skip _ 0 (fun j _ h2 => h j (by omega))
 · rfl
theorem NoMeet.hit {n : Int} {l : List PreD} {i k : Nat} (h : NoMeet n l k) (h2 : meetAt n l k = some (i, k)) (hw : inR n 1 32 = true) (hl : l.length ≤ 6000) (hk : k < l.length) : meet n l = some (i, k) := by
 unfold meet
 rw [hw, decide_eq_true hl, Bool.and_self, if_pos rfl]
 exact meetGo_at h2 _ 0 (Nat.zero_le _) (by omega) (fun j _ hj => h j hj)
theorem meet_wide {n : Int} {l : List PreD} (h : inR n 1 32 = false) : meet n l = none := by rw [meet, h]; rfl
theorem meet_long {n : Int} {l : List PreD} (h : 6000 < l.length) : meet n l = none := by rw [meet, decide_eq_false (by omega), Bool.and_false]; rfl
theorem meet_vals {n : Int} {l : List PreD} {i k : Nat} {a b : PreD} (h : meet n l = some (i, k)) (ha : l[i]? = some a) (hb : l[k]? = some b) : meetA n l = a ∧ meetB n l = b ∧ meetOk n l = true := by
 simp [meetA, meetB, meetOk, h, List.getD, ha, hb]
theorem meet_zero {n : Int} {l : List PreD} (h : meet n l = none) : meetA n l = pz ∧ meetB n l = pz ∧ meetOk n l = false := by
 simp [meetA, meetB, meetOk, h]
def firsts (n : Int) (l : List PreD) (k : Nat) : ByteArray → Option Nat := fun h => firstAt n l h k
theorem firstAt_succ (n : Int) (l : List PreD) (h : ByteArray) (k : Nat) : firstAt n l h (k + 1) = (firstAt n l h k).or (if hasH n l h k then some k else none) := by
 unfold firstAt
 rw [List.range_succ, List.find?_append]
 congr 1
 simp [List.find?_cons]
 cases hasH n l h k <;> rfl
theorem firsts_bad {n : Int} {l : List PreD} {k : Nat} {b : PreD} (hb : l[k]? = some b) (h : digestOk n b.tag b.text = false) : firsts n l (k + 1) = firsts n l k := by
 funext s
 unfold firsts
 rw [firstAt_succ, hash_of hb, h]
 simp
theorem firsts_old {n : Int} {l : List PreD} {k i : Nat} {b : PreD} (hb : l[k]? = some b) (h : firsts n l k (digest n b.tag b.text) = some i) : firsts n l (k + 1) = firsts n l k := by
 funext s
 unfold firsts at h ⊢
 rw [firstAt_succ, hash_of hb]
 by_cases e : digest n b.tag b.text = s
 · subst e; rw [h]; rfl
 · have : ((digest n b.tag b.text).toList == s.toList) = false := by simpa [bytes_eq_iff] using e
   rw [this]; simp
theorem firsts_new {n : Int} {l : List PreD} {k : Nat} {b : PreD} (hb : l[k]? = some b) (hok : digestOk n b.tag b.text = true) (h : firsts n l k (digest n b.tag b.text) = none) (s : ByteArray) : firsts n l (k + 1) s = if s = digest n b.tag b.text then some k else firsts n l k s := by
 unfold firsts at h ⊢
 rw [firstAt_succ, hash_of hb, hok]
 by_cases e : s = digest n b.tag b.text
 · subst e; rw [h]; simp
 · have : ((digest n b.tag b.text).toList == s.toList) = false := by simpa [bytes_eq_iff] using fun h => e h.symm
   rw [this, if_neg e]; simp
end Go.Proofs.Ytgeengkdgdjcjaa

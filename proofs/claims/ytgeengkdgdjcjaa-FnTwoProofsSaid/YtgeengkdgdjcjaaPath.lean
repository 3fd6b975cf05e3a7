/-
  Path: No condition.
-/
import Derived.Test.YtgeengkdgdjcjaaNString
namespace Go.Proofs.Ytgeengkdgdjcjaa
set_option linter.unusedSimpArgs false
open Go.RowKit
set_option linter.unusedVariables false
def half (n : Nat) : Nat := 2 ^ Nat.log2 (n - 1)
theorem half_pos (n : Nat) : 0 < half n := Nat.two_pow_pos _
theorem half_lt {n : Nat} (h : 2 ≤ n) : half n < n := by
 have := Nat.log2_self_le (n := n - 1) (by omega)
 unfold half; omega
theorem half_eq {n k : Nat} (h1 : 2 ^ k < n) (h2 : n ≤ 2 ^ (k + 1)) : half n = 2 ^ k := by
 have h0 : 0 < 2 ^ k := Nat.two_pow_pos _
 have : Nat.log2 (n - 1) = k := (Nat.log2_eq_iff (by omega)).2 ⟨by omega, by omega⟩
 rw [half, this]
def stepsF : Nat → Nat → Nat → Nat
 | 0, _, _ => 0
 | f + 1, n, a => if n ≤ 1 then 0 else if a < half n then stepsF f (half n) a + 1 else stepsF f (n - half n) (a - half n) + 1
theorem stepsF_fuel : ∀ (f g n a : Nat), n ≤ f → n ≤ g → stepsF f n a = stepsF g n a
 | 0, 0, _, _, _, _ => rfl
 | 0, g + 1, n, a, h, _ => by rw [stepsF, stepsF, if_pos (by omega)]
 | f + 1, 0, n, a, _, h => by rw [stepsF, stepsF, if_pos (by omega)]
 | f + 1, g + 1, n, a, hf, hg => by
   rw [stepsF, stepsF]
   by_cases h1 : n ≤ 1
   · rw [if_pos h1, if_pos h1]
   · have l1 := half_lt (n := n) (by omega)
     have l2 := half_pos n
     rw [if_neg h1, if_neg h1, stepsF_fuel f g (half n) a (by omega) (by omega), stepsF_fuel f g (n - half n) (a - half n) (by omega) (by omega)]
def stepsN (n a : Nat) : Nat := stepsF n n a
theorem stepsN_one {n a : Nat} (h : n ≤ 1) : stepsN n a = 0 := by
 unfold stepsN
 cases n with
 | zero => rfl
 | succ n => rw [stepsF, if_pos h]
theorem stepsN_lo {n a : Nat} (h : 1 < n) (ha : a < half n) : stepsN n a = stepsN (half n) a + 1 := by
 have l1 := half_lt (n := n) (by omega)
 unfold stepsN
 obtain ⟨m, rfl⟩ : ∃ m, n = m + 1 := ⟨n - 1, by omega⟩
 rw [stepsF, if_neg (by omega), if_pos ha, stepsF_fuel m (half (m + 1)) _ _ (by omega) (Nat.le_refl _)]
theorem stepsN_hi {n a : Nat} (h : 1 < n) (ha : ¬ a < half n) : stepsN n a = stepsN (n - half n) (a - half n) + 1 := by
 have l1 := half_pos n
 unfold stepsN
 obtain ⟨m, rfl⟩ : ∃ m, n = m + 1 := ⟨n - 1, by omega⟩
 rw [stepsF, if_neg (by omega), if_neg ha, stepsF_fuel m (m + 1 - half (m + 1)) _ _ (by omega) (Nat.le_refl _)]
def stepsIn (n a : Int) : Int := if inR n 0 512 && inR a 0 (n - 1) then (stepsN n.toNat a.toNat : Int) else -1
def hashes (w : Int) (l : List ByteArray) : Bool := l.all fun s => (s.size : Int) == w
def nodeT (w : Int) (t : ByteArray) : ByteArray := digest w 1 t
theorem nodeT_le (w : Int) (t : ByteArray) : (nodeT w t).size ≤ 32 := by
 unfold nodeT
 cases b : digestOk w 1 t
 · rw [digest_no b]; decide
 · rw [digest_size b]
   have : inR w 1 32 = true := by simp only [digestOk, Bool.and_eq_true] at b; exact b.1.1
   have := inR_true this
   omega
def pathIn (w : Int) (leaf : ByteArray) : Nat → Nat → List ByteArray → ByteArray × List ByteArray
 | _, _, [] => (leaf, [])
 | n, a, p :: ps =>
   if n ≤ 1 then (leaf, [])
   else if a < half n then (nodeT w ((pathIn w leaf (half n) a ps).1 ++ p), (pathIn w leaf (half n) a ps).2 ++ [(pathIn w leaf (half n) a ps).1 ++ p])
   else (nodeT w (p ++ (pathIn w leaf (n - half n) (a - half n) ps).1), (pathIn w leaf (n - half n) (a - half n) ps).2 ++ [p ++ (pathIn w leaf (n - half n) (a - half n) ps).1])
theorem pathIn_le (w : Int) (leaf : ByteArray) (hl : leaf.size ≤ 32) : ∀ (ps : List ByteArray) (n a : Nat), (pathIn w leaf n a ps).1.size ≤ 32
 | [], _, _ => by rw [pathIn]; exact hl
 | p :: ps, n, a => by
   rw [pathIn]
   by_cases h1 : n ≤ 1
   · rw [if_pos h1]; exact hl
   · rw [if_neg h1]
     by_cases h2 : a < half n
     · rw [if_pos h2]; exact nodeT_le _ _
     · rw [if_neg h2]; exact nodeT_le _ _
theorem pathIn_texts (w : Int) (leaf : ByteArray) : ∀ (ps : List ByteArray) (n a : Nat), (pathIn w leaf n a ps).2.length ≤ ps.length
 | [], _, _ => by rw [pathIn]; exact Nat.le_refl _
 | p :: ps, n, a => by
   have h3 := pathIn_texts w leaf ps (half n) a
   have h4 := pathIn_texts w leaf ps (n - half n) (a - half n)
   rw [pathIn]
   by_cases h1 : n ≤ 1
   · rw [if_pos h1]; simp
   · rw [if_neg h1]
     by_cases h2 : a < half n
     · rw [if_pos h2]; simp; exact h3
     · rw [if_neg h2]; simp; exact h4
def inOk (w n a : Int) (leaf : ByteArray) (l : List ByteArray) : Bool := inR w 1 32 && ((leaf.size : Int) == w) && hashes w l && (stepsIn n a == (l.length : Int))
def rootIn (w n a : Int) (leaf : ByteArray) (l : List ByteArray) : ByteArray := if inOk w n a leaf l then (pathIn w leaf n.toNat a.toNat l.reverse).1 else ⟨#[]⟩
def checkIn (w : Int) (root : ByteArray) (n a : Int) (leaf : ByteArray) (l : List ByteArray) : Bool := inOk w n a leaf l && ((rootIn w n a leaf l).toList == root.toList)
theorem inOk_facts {w n a : Int} {leaf : ByteArray} {l : List ByteArray} (h : inOk w n a leaf l = true) : (1 ≤ w ∧ w ≤ 32) ∧ (leaf.size : Int) = w ∧ (∀ s ∈ l, (s.size : Int) = w) ∧ (0 ≤ n ∧ n ≤ 512) ∧ (0 ≤ a ∧ a ≤ n - 1) ∧ stepsN n.toNat a.toNat = l.length := by
 simp only [inOk, Bool.and_eq_true, beq_iff_eq, hashes, List.all_eq_true] at h
 obtain ⟨⟨⟨h1, h2⟩, h3⟩, h4⟩ := h
 rw [stepsIn] at h4
 split at h4
 · rename_i h5
   rw [Bool.and_eq_true] at h5
   exact ⟨inR_true h1, h2, h3, inR_true h5.1, inR_true h5.2, by omega⟩
 · omega
theorem stepsN_le : ∀ (f n a : Nat), n ≤ f → a < n → stepsN n a ≤ 2 * n := by
 intro f
 induction f with
 | zero => intro n a h1 h2; omega
 | succ f ih =>
   intro n a h1 h2
   by_cases hn : n ≤ 1
   · rw [stepsN_one hn]; omega
   · have l1 := half_lt (n := n) (by omega)
     have l2 := half_pos n
     by_cases ha : a < half n
     · rw [stepsN_lo (by omega) ha]; have := ih (half n) a (by omega) ha; omega
     · rw [stepsN_hi (by omega) ha]; have := ih (n - half n) (a - half n) (by omega) (by omega); omega
def textsIn (w n a : Int) (leaf : ByteArray) (l : List ByteArray) : List ByteArray := if inOk w n a leaf l then (pathIn w leaf n.toNat a.toNat l.reverse).2 else []
theorem bad_in {w n a : Int} {leaf : ByteArray} {l : List ByteArray} (h : inOk w n a leaf l = false) : rootIn w n a leaf l = ⟨#[]⟩ ∧ textsIn w n a leaf l = [] := by simp [rootIn, textsIn, h]
end Go.Proofs.Ytgeengkdgdjcjaa

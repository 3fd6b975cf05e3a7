/-
  Path: No condition.
-/
import Derived.Test.YtgeengkdgdjcjaaGreatNString
namespace Go.Proofs.YtgeengkdgdjcjaaGreat
set_option linter.unusedSimpArgs false
open Go.RowKit
set_option linter.unusedVariables false
def half (n : Nat) : Nat := 2 ^ Nat.log2 (n - 1)
theorem half_pos (n : Nat) : 0 < half n := Nat.two_pow_pos _
theorem half_lt {n : Nat} (h : 2 ≤ n) : half n < n := by
 have := Nat.log2_self_le (n := n - 1) (by omega)
 unfold half; omega
def stepsF : Nat → Nat → Nat → Nat
 | 0, _, _ => 0
 | f + 1, n, a => if n ≤ 1 then 0 else if a < half n then stepsF f (half n) a + 1 else stepsF f (n - half n) (a - half n) + 1
theorem stepsF_fuel : ∀ (f g n a : Nat), n ≤ f → n ≤ g → stepsF f n a = stepsF g n a
 | 0, 0, _, _, _, _ => rfl
 | 0, g + 1, n, a, h, _ => by rw [stepsF, stepsF, if_pos (by omega)]
 | f + 1, 0, n, a, _, h => by rw [stepsF, stepsF, if_pos (by omega)]
 | f + 1, g + 1, n, a, hf, hg => by
   rw [stepsF, stepsF]
   by_cases h1 : n ≤ 1
   · rw [if_pos h1, if_pos h1]
   · have l1 := half_lt (n := n) (by omega)
     have l2 := half_pos n
     rw [if_neg h1, if_neg h1, stepsF_fuel f g (half n) a (by omega) (by omega), stepsF_fuel f g (n - half n) (a - half n) (by omega) (by omega)]
def stepsN (n a : Nat) : Nat := stepsF n n a
theorem stepsN_one {n a : Nat} (h : n ≤ 1) : stepsN n a = 0 := by
 unfold stepsN
 cases n with
 | zero => rfl
 | succ n => rw [stepsF, if_pos h]
theorem stepsN_lo {n a : Nat} (h : 1 < n) (ha : a < half n) : stepsN n a = stepsN (half n) a + 1 := by
 have l1 := half_lt (n := n) (by omega)
 unfold stepsN
 obtain ⟨m, rfl⟩ : ∃ m, n = m + 1 := ⟨n - 1, by omega⟩
 rw [stepsF, if_neg (by omega), if_pos ha, stepsF_fuel m (half (m + 1)) _ _ (by omega) (Nat.le_refl _)]
theorem stepsN_hi {n a : Nat} (h : 1 < n) (ha : ¬ a < half n) : stepsN n a = stepsN (n - half n) (a - half n) + 1 := by
 have l1 := half_pos n
 unfold stepsN
 obtain ⟨m, rfl⟩ : ∃ m, n = m + 1 := ⟨n - 1, by omega⟩
 rw [stepsF, if_neg (by omega), if_neg ha, stepsF_fuel m (m + 1 - half (m + 1)) _ _ (by omega) (Nat.le_refl _)]
def stepsIn (n a : Int) : Int := if inR n 0 512 && inR a 0 (n - 1) then (stepsN n.toNat a.toNat : Int) else -1
def betwF : Nat → Nat → Nat → Bool → Nat
 | 0, _, _, whole => if whole then 0 else 1
 | f + 1, a, n, whole => if n ≤ a then (if whole then 0 else 1) else if a ≤ half n then betwF f a (half n) whole + 1 else betwF f (a - half n) (n - half n) false + 1
theorem betwF_fuel : ∀ (f g a n : Nat) (b : Bool), n ≤ f → n ≤ g → 1 ≤ a → betwF f a n b = betwF g a n b
 | 0, 0, _, _, _, _, _, _ => rfl
 | 0, g + 1, a, n, b, h, _, h1 => by rw [betwF, betwF, if_pos (show n ≤ a by omega)]
 | f + 1, 0, a, n, b, _, h, h1 => by rw [betwF, betwF, if_pos (show n ≤ a by omega)]
 | f + 1, g + 1, a, n, b, hf, hg, h1 => by
   rw [betwF, betwF]
   by_cases h2 : n ≤ a
   · rw [if_pos h2, if_pos h2]
   · have l1 := half_lt (n := n) (by omega)
     have l2 := half_pos n
     rw [if_neg h2, if_neg h2]
     by_cases h3 : a ≤ half n
     · rw [if_pos h3, if_pos h3, betwF_fuel f g a (half n) b (by omega) (by omega) h1]
     · rw [if_neg h3, if_neg h3, betwF_fuel f g (a - half n) (n - half n) false (by omega) (by omega) (by omega)]
def betwN (a n : Nat) (whole : Bool) : Nat := betwF n a n whole
theorem betwN_done {a n : Nat} {b : Bool} (h : n ≤ a) : betwN a n b = if b then 0 else 1 := by
 unfold betwN
 cases n with
 | zero => rfl
 | succ n => rw [betwF, if_pos h]
theorem betwN_lo {a n : Nat} {b : Bool} (h1 : 1 ≤ a) (h : a < n) (ha : a ≤ half n) : betwN a n b = betwN a (half n) b + 1 := by
 have l1 := half_lt (n := n) (by omega)
 unfold betwN
 obtain ⟨m, rfl⟩ : ∃ m, n = m + 1 := ⟨n - 1, by omega⟩
 rw [betwF, if_neg (by omega), if_pos ha, betwF_fuel m (half (m + 1)) _ _ _ (by omega) (Nat.le_refl _) h1]
theorem betwN_hi {a n : Nat} {b : Bool} (h1 : 1 ≤ a) (h : a < n) (ha : ¬ a ≤ half n) : betwN a n b = betwN (a - half n) (n - half n) false + 1 := by
 have l1 := half_lt (n := n) (by omega)
 have l2 := half_pos n
 unfold betwN
 obtain ⟨m, rfl⟩ : ∃ m, n = m + 1 := ⟨n - 1, by omega⟩
 rw [betwF, if_neg (by omega), if_neg ha, betwF_fuel m (m + 1 - half (m + 1)) _ _ _ (by omega) (Nat.le_refl _) (by omega)]
def stepsBetween (a n : Int) : Int := if inR n 0 512 && inR a 0 n then (if a = 0 then 0 else (betwN a.toNat n.toNat true : Int)) else -1
def hashes (w : Int) (l : List ByteArray) : Bool := l.all fun s => (s.size : Int) == w
def nodeT (w : Int) (t : ByteArray) : ByteArray := digest w 1 t
theorem nodeT_le (w : Int) (t : ByteArray) : (nodeT w t).size ≤ 32 := by
 unfold nodeT
 cases b : digestOk w 1 t
 · rw [digest_no b]; decide
 · rw [digest_size b]
   have : inR w 1 32 = true := by simp only [digestOk, Bool.and_eq_true] at b; exact b.1.1
   have := inR_true this
   omega
def pathIn (w : Int) (leaf : ByteArray) : Nat → Nat → List ByteArray → ByteArray × List ByteArray
 | _, _, [] => (leaf, [])
 | n, a, p :: ps =>
   if n ≤ 1 then (leaf, [])
   else if a < half n then (nodeT w ((pathIn w leaf (half n) a ps).1 ++ p), (pathIn w leaf (half n) a ps).2 ++ [(pathIn w leaf (half n) a ps).1 ++ p])
   else (nodeT w (p ++ (pathIn w leaf (n - half n) (a - half n) ps).1), (pathIn w leaf (n - half n) (a - half n) ps).2 ++ [p ++ (pathIn w leaf (n - half n) (a - half n) ps).1])
theorem pathIn_le (w : Int) (leaf : ByteArray) (hl : leaf.size ≤ 32) : ∀ (ps : List ByteArray) (n a : Nat), (pathIn w leaf n a ps).1.size ≤ 32
 | [], _, _ => by rw [pathIn]; exact hl
 | p :: ps, n, a => by
   rw [pathIn]
   by_cases h1 : n ≤ 1
   · rw [if_pos h1]; exact hl
   · rw [if_neg h1]
     by_cases h2 : a < half n
     · rw [if_pos h2]; exact nodeT_le _ _
     · rw [if_neg h2]; exact nodeT_le _ _
theorem pathIn_texts (w : Int) (leaf : ByteArray) : ∀ (ps : List ByteArray) (n a : Nat), (pathIn w leaf n a ps).2.length ≤ ps.length
 | [], _, _ => by rw [pathIn]; exact Nat.le_refl _
 | p :: ps, n, a => by
   have h3 := pathIn_texts w leaf ps (half n) a
   have h4 := pathIn_texts w leaf ps (n - half n) (a - half n)
   rw [pathIn]
   by_cases h1 : n ≤ 1
   · rw [if_pos h1]; simp
   · rw [if_neg h1]
     by_cases h2 : a < half n
     · rw [if_pos h2]; simp; exact h3
     · rw [if_neg h2]; simp; exact h4
structure Way where
 small : ByteArray
 big : ByteArray
 texts : List ByteArray
def pathB (w : Int) (root : ByteArray) : Nat → Nat → Bool → List ByteArray → Way
 | _, _, _, [] => ⟨root, root, []⟩
 | a, n, whole, p :: ps =>
   if n ≤ a then (if whole then ⟨root, root, []⟩ else ⟨p, p, []⟩)
   else if a ≤ half n then
    ⟨(pathB w root a (half n) whole ps).small, nodeT w ((pathB w root a (half n) whole ps).big ++ p), (pathB w root a (half n) whole ps).texts ++ [(pathB w root a (half n) whole ps).big ++ p]⟩
   else
    ⟨nodeT w (p ++ (pathB w root (a - half n) (n - half n) false ps).small), nodeT w (p ++ (pathB w root (a - half n) (n - half n) false ps).big),
     (pathB w root (a - half n) (n - half n) false ps).texts ++ [p ++ (pathB w root (a - half n) (n - half n) false ps).small, p ++ (pathB w root (a - half n) (n - half n) false ps).big]⟩
theorem pathB_le (w : Int) (root : ByteArray) (hr : root.size ≤ 32) : ∀ (ps : List ByteArray) (a n : Nat) (b : Bool), (∀ p ∈ ps, p.size ≤ 32) → (pathB w root a n b ps).small.size ≤ 32 ∧ (pathB w root a n b ps).big.size ≤ 32 ∧ (pathB w root a n b ps).texts.length ≤ 2 * ps.length
 | [], _, _, _, _ => by rw [pathB]; exact ⟨hr, hr, Nat.le_refl _⟩
 | p :: ps, a, n, b, hp => by
   have h3 := pathB_le w root hr ps a (half n) b (fun q hq => hp q (List.mem_cons_of_mem _ hq))
   have h4 := pathB_le w root hr ps (a - half n) (n - half n) false (fun q hq => hp q (List.mem_cons_of_mem _ hq))
   have h5 := hp p List.mem_cons_self
   rw [pathB]
   by_cases h1 : n ≤ a
   · rw [if_pos h1]
     cases b
     · exact ⟨h5, h5, by simp⟩
     · exact ⟨hr, hr, by simp⟩
   · rw [if_neg h1]
     by_cases h2 : a ≤ half n
     · rw [if_pos h2]; exact ⟨h3.1, nodeT_le _ _, by simp; omega⟩
     · rw [if_neg h2]; exact ⟨nodeT_le _ _, nodeT_le _ _, by simp; omega⟩
def inOk (w n a : Int) (leaf : ByteArray) (l : List ByteArray) : Bool := inR w 1 32 && ((leaf.size : Int) == w) && hashes w l && (stepsIn n a == (l.length : Int))
def rootIn (w n a : Int) (leaf : ByteArray) (l : List ByteArray) : ByteArray := if inOk w n a leaf l then (pathIn w leaf n.toNat a.toNat l.reverse).1 else ⟨#[]⟩
def checkIn (w : Int) (root : ByteArray) (n a : Int) (leaf : ByteArray) (l : List ByteArray) : Bool := inOk w n a leaf l && ((rootIn w n a leaf l).toList == root.toList)
def betwOk (w a : Int) (root : ByteArray) (n : Int) (l : List ByteArray) : Bool := inR w 1 32 && ((root.size : Int) == w) && hashes w l && decide (1 ≤ a) && (stepsBetween a n == (l.length : Int))
def smallB (w a : Int) (root : ByteArray) (n : Int) (l : List ByteArray) : ByteArray := if betwOk w a root n l then (pathB w root a.toNat n.toNat true l.reverse).small else ⟨#[]⟩
def bigB (w a : Int) (root : ByteArray) (n : Int) (l : List ByteArray) : ByteArray := if betwOk w a root n l then (pathB w root a.toNat n.toNat true l.reverse).big else ⟨#[]⟩
def checkZero (w : Int) (sroot : ByteArray) (n : Int) (root : ByteArray) (l : List ByteArray) : Bool :=
 inR w 1 32 && inR n 0 512 && (((l.length : Nat) : Int) == 0) && ((root.size : Int) == w) && (sroot.toList == (emptyR w).toList) && (decide (0 < n) || (root.toList == (emptyR w).toList))
def checkBetween (w a : Int) (sroot : ByteArray) (n : Int) (root : ByteArray) (l : List ByteArray) : Bool :=
 if a = 0 then checkZero w sroot n root l else betwOk w a sroot n l && ((smallB w a sroot n l).toList == sroot.toList) && ((bigB w a sroot n l).toList == root.toList)
theorem checkBetween_low {w a : Int} {sroot : ByteArray} {n : Int} {root : ByteArray} {l : List ByteArray} (h : a < 0) : checkBetween w a sroot n root l = false := by
 have : decide (1 ≤ a) = false := by rw [decide_eq_false_iff_not]; omega
 rw [checkBetween, if_neg (by omega), betwOk, this]; simp
theorem inOk_facts {w n a : Int} {leaf : ByteArray} {l : List ByteArray} (h : inOk w n a leaf l = true) : (1 ≤ w ∧ w ≤ 32) ∧ (leaf.size : Int) = w ∧ (∀ s ∈ l, (s.size : Int) = w) ∧ (0 ≤ n ∧ n ≤ 512) ∧ (0 ≤ a ∧ a ≤ n - 1) ∧ stepsN n.toNat a.toNat = l.length := by
 simp only [inOk, Bool.and_eq_true, beq_iff_eq, hashes, List.all_eq_true] at h
 obtain ⟨⟨⟨h1, h2⟩, h3⟩, h4⟩ := h
 rw [stepsIn] at h4
 split at h4
 · rename_i h5
   rw [Bool.and_eq_true] at h5
   exact ⟨inR_true h1, h2, h3, inR_true h5.1, inR_true h5.2, by omega⟩
 · omega
theorem betwOk_facts {w a : Int} {root : ByteArray} {n : Int} {l : List ByteArray} (h : betwOk w a root n l = true) : (1 ≤ w ∧ w ≤ 32) ∧ (root.size : Int) = w ∧ (∀ s ∈ l, (s.size : Int) = w) ∧ 1 ≤ a ∧ a ≤ n ∧ n ≤ 512 ∧ betwN a.toNat n.toNat true = l.length := by
 simp only [betwOk, Bool.and_eq_true, beq_iff_eq, hashes, List.all_eq_true, decide_eq_true_eq] at h
 obtain ⟨⟨⟨⟨h1, h2⟩, h3⟩, h6⟩, h4⟩ := h
 rw [stepsBetween] at h4
 split at h4
 · rename_i h5
   rw [Bool.and_eq_true] at h5
   have h7 := inR_true h5.1
   have h8 := inR_true h5.2
   rw [if_neg (by omega)] at h4
   exact ⟨inR_true h1, h2, h3, h6, h8.2, h7.2, by omega⟩
 · omega
def textsIn (w n a : Int) (leaf : ByteArray) (l : List ByteArray) : List ByteArray := if inOk w n a leaf l then (pathIn w leaf n.toNat a.toNat l.reverse).2 else []
theorem bad_in {w n a : Int} {leaf : ByteArray} {l : List ByteArray} (h : inOk w n a leaf l = false) : rootIn w n a leaf l = ⟨#[]⟩ ∧ textsIn w n a leaf l = [] := by simp [rootIn, textsIn, h]
end Go.Proofs.YtgeengkdgdjcjaaGreat

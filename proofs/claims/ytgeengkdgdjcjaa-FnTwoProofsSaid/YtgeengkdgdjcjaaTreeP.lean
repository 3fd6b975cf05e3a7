/-
  Merkle; TreeP: No condition.
-/
import Derived.Test.YtgeengkdgdjcjaaPath
import Derived.Test.YtgeengkdgdjcjaaNString
namespace Go.Proofs.Ytgeengkdgdjcjaa
set_option linter.unusedSimpArgs false
set_option linter.unusedVariables false
section
variable {α : Type} (nd : α → α → α) (e : α)
def mrF : Nat → List α → α
 | 0, _ => e
 | f + 1, l => match l with
   | [] => e
   | [x] => x
   | x :: y :: r => nd (mrF f ((x :: y :: r).take (half (x :: y :: r).length))) (mrF f ((x :: y :: r).drop (half (x :: y :: r).length)))
def mroot (l : List α) : α := mrF nd e l.length l
theorem mrF_fuel : ∀ (f g : Nat) (l : List α), l.length ≤ f → l.length ≤ g → mrF nd e f l = mrF nd e g l
 | 0, 0, _, _, _ => rfl
 | 0, g + 1, l, h, _ => by
   obtain rfl : l = [] := List.eq_nil_of_length_eq_zero (by omega)
   rfl
 | f + 1, 0, l, _, h => by
   obtain rfl : l = [] := List.eq_nil_of_length_eq_zero (by omega)
   rfl
 | f + 1, g + 1, [], _, _ => rfl
 | f + 1, g + 1, [x], _, _ => rfl
 | f + 1, g + 1, x :: y :: r, hf, hg => by
   have l1 := half_lt (n := (x :: y :: r).length) (by simp)
   have l2 := half_pos (x :: y :: r).length
   simp only [mrF]
   rw [mrF_fuel f g _ (by rw [List.length_take]; omega) (by rw [List.length_take]; omega), mrF_fuel f g _ (by rw [List.length_drop]; omega) (by rw [List.length_drop]; omega)]
theorem mroot_more {l : List α} (h : 2 ≤ l.length) : mroot nd e l = nd (mroot nd e (l.take (half l.length))) (mroot nd e (l.drop (half l.length))) := by
 have l1 := half_lt h
 have l2 := half_pos l.length
 match l, h, l1, l2 with
 | x :: y :: r, _, l1, l2 =>
   unfold mroot
   obtain ⟨f, hf⟩ : ∃ f, (x :: y :: r).length = f + 1 := ⟨r.length + 1, by simp⟩
   rw [hf, mrF, ← hf]
   rw [mrF_fuel nd e f ((x :: y :: r).take (half (x :: y :: r).length)).length _ (by rw [List.length_take]; omega) (Nat.le_refl _), mrF_fuel nd e f ((x :: y :: r).drop (half (x :: y :: r).length)).length _ (by rw [List.length_drop]; omega) (Nat.le_refl _)]
end
def pcF : Nat → Nat → Nat
 | 0, _ => 0
 | f + 1, n => n % 2 + pcF f (n / 2)
def pc (n : Nat) : Nat := pcF n n
end Go.Proofs.Ytgeengkdgdjcjaa
namespace Go.Proofs.Ytgeengkdgdjcjaa
set_option linter.unusedSimpArgs false
open Go.RowKit
set_option linter.unusedVariables false
def ndB (w : Int) (a b : ByteArray) : ByteArray := nodeT w (a ++ b)
def treeR (w : Int) (l : List ByteArray) : ByteArray := mroot (ndB w) (emptyR w) l
theorem nodeT_size {w : Int} {t : ByteArray} (hw : inR w 1 32 = true) (ht : t.size ≤ 4000) : (nodeT w t).size = w.toNat := by
 unfold nodeT
 exact digest_size (by rw [digestOk, hw]; simp [inR]; omega)
theorem treeR_size {w : Int} (hw : inR w 1 32 = true) : ∀ (n : Nat) (l : List ByteArray), l.length ≤ n → (∀ s ∈ l, s.size = w.toNat) → (treeR w l).size = w.toNat := by
 have hw2 := inR_true hw
 intro n
 induction n with
 | zero =>
   intro l hl _
   obtain rfl : l = [] := List.eq_nil_of_length_eq_zero (by omega)
   exact digest_size (by rw [emptyOk]; exact hw)
 | succ n ih =>
   intro l hl h
   match l, hl, h with
   | [], _, _ => exact digest_size (by rw [emptyOk]; exact hw)
   | [x], _, h => exact h x (by simp)
   | x :: y :: r, hl, h =>
     have l1 := half_lt (n := (x :: y :: r).length) (by simp)
     have l2 := half_pos (x :: y :: r).length
     have a := ih ((x :: y :: r).take (half (x :: y :: r).length)) (by rw [List.length_take]; omega) (fun s hs => h s (List.mem_of_mem_take hs))
     have b := ih ((x :: y :: r).drop (half (x :: y :: r).length)) (by rw [List.length_drop]; omega) (fun s hs => h s (List.mem_of_mem_drop hs))
     unfold treeR at a b ⊢
     rw [mroot_more _ _ (by simp)]
     refine nodeT_size hw ?_
     rw [ByteArray.size_append, a, b]; omega
end Go.Proofs.Ytgeengkdgdjcjaa

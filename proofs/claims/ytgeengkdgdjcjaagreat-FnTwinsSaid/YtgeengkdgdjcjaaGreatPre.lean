/-
  Merkle; TreeP; InclP; Pre: No condition.
-/
import Derived.Test.YtgeengkdgdjcjaaGreatPath
import Derived.Test.YtgeengkdgdjcjaaGreatNString
import Derived.Test.YtgeengkdgdjcjaaGreatEqs
namespace Go.Proofs.YtgeengkdgdjcjaaGreat
set_option linter.unusedSimpArgs false
set_option linter.unusedVariables false
section
variable {α : Type} (nd : α → α → α) (e : α)
def mrF : Nat → List α → α
 | 0, _ => e
 | f + 1, l => match l with
   | [] => e
   | [x] => x
   | x :: y :: r => nd (mrF f ((x :: y :: r).take (half (x :: y :: r).length))) (mrF f ((x :: y :: r).drop (half (x :: y :: r).length)))
def mroot (l : List α) : α := mrF nd e l.length l
theorem mrF_fuel : ∀ (f g : Nat) (l : List α), l.length ≤ f → l.length ≤ g → mrF nd e f l = mrF nd e g l
 | 0, 0, _, _, _ => rfl
 | 0, g + 1, l, h, _ => by
   obtain rfl : l = [] := List.eq_nil_of_length_eq_zero (by omega)
   rfl
 | f + 1, 0, l, _, h => by
   obtain rfl : l = [] := List.eq_nil_of_length_eq_zero (by omega)
   rfl
 | f + 1, g + 1, [], _, _ => rfl
 | f + 1, g + 1, [x], _, _ => rfl
 | f + 1, g + 1, x :: y :: r, hf, hg => by
   have l1 := half_lt (n := (x :: y :: r).length) (by simp)
   have l2 := half_pos (x :: y :: r).length
   simp only [mrF]
   rw [mrF_fuel f g _ (by rw [List.length_take]; omega) (by rw [List.length_take]; omega), mrF_fuel f g _ (by rw [List.length_drop]; omega) (by rw [List.length_drop]; omega)]
theorem mroot_more {l : List α} (h : 2 ≤ l.length) : mroot nd e l = nd (mroot nd e (l.take (half l.length))) (mroot nd e (l.drop (half l.length))) := by
 have l1 := half_lt h
 have l2 := half_pos l.length
 match l, h, l1, l2 with
 | x :: y :: r, _, l1, l2 =>
   unfold mroot
   obtain ⟨f, hf⟩ : ∃ f, (x :: y :: r).length = f + 1 := ⟨r.length + 1, by simp⟩
   rw [hf, mrF, ← hf]
   rw [mrF_fuel nd e f ((x :: y :: r).take (half (x :: y :: r).length)).length _ (by rw [List.length_take]; omega) (Nat.le_refl _), mrF_fuel nd e f ((x :: y :: r).drop (half (x :: y :: r).length)).length _ (by rw [List.length_drop]; omega) (Nat.le_refl _)]
end
end Go.Proofs.YtgeengkdgdjcjaaGreat
namespace Go.Proofs.YtgeengkdgdjcjaaGreat
set_option linter.unusedSimpArgs false
open Go.RowKit
set_option linter.unusedVariables false
def ndB (w : Int) (a b : ByteArray) : ByteArray := nodeT w (a ++ b)
def treeR (w : Int) (l : List ByteArray) : ByteArray := mroot (ndB w) (emptyR w) l
theorem nodeT_size {w : Int} {t : ByteArray} (hw : inR w 1 32 = true) (ht : t.size ≤ 4000) : (nodeT w t).size = w.toNat := by
 unfold nodeT
 exact digest_size (by rw [digestOk, hw]; simp [inR]; omega)
theorem treeR_size {w : Int} (hw : inR w 1 32 = true) : ∀ (n : Nat) (l : List ByteArray), l.length ≤ n → (∀ s ∈ l, s.size = w.toNat) → (treeR w l).size = w.toNat := by
 have hw2 := inR_true hw
 intro n
 induction n with
 | zero =>
   intro l hl _
   obtain rfl : l = [] := List.eq_nil_of_length_eq_zero (by omega)
   exact digest_size (by rw [emptyOk]; exact hw)
 | succ n ih =>
   intro l hl h
   match l, hl, h with
   | [], _, _ => exact digest_size (by rw [emptyOk]; exact hw)
   | [x], _, h => exact h x (by simp)
   | x :: y :: r, hl, h =>
     have l1 := half_lt (n := (x :: y :: r).length) (by simp)
     have l2 := half_pos (x :: y :: r).length
     have a := ih ((x :: y :: r).take (half (x :: y :: r).length)) (by rw [List.length_take]; omega) (fun s hs => h s (List.mem_of_mem_take hs))
     have b := ih ((x :: y :: r).drop (half (x :: y :: r).length)) (by rw [List.length_drop]; omega) (fun s hs => h s (List.mem_of_mem_drop hs))
     unfold treeR at a b ⊢
     rw [mroot_more _ _ (by simp)]
     refine nodeT_size hw ?_
     rw [ByteArray.size_append, a, b]; omega
def inclN (wd : Int) : Nat → List ByteArray → Nat → List ByteArray
 | 0, _, _ => []
 | m + 1, l, k => if l.length ≤ 1 then [] else if k < half l.length then inclN wd m (l.take (half l.length)) k ++ [treeR wd (l.drop (half l.length))] else inclN wd m (l.drop (half l.length)) (k - half l.length) ++ [treeR wd (l.take (half l.length))]
theorem inclN_len (wd : Int) : ∀ (m : Nat) (l : List ByteArray) (k : Nat), (inclN wd m l k).length ≤ m
 | 0, _, _ => Nat.le_refl _
 | m + 1, l, k => by
   rw [inclN]
   split
   · exact Nat.zero_le _
   · split
     · have := inclN_len wd m (l.take (half l.length)) k
       simp; omega
     · have := inclN_len wd m (l.drop (half l.length)) (k - half l.length)
       simp; omega
theorem inclN_one {wd : Int} {m : Nat} {l : List ByteArray} {k : Nat} (h : l.length ≤ 1) : inclN wd m l k = [] := by
 cases m with
 | zero => rfl
 | succ m => rw [inclN, if_pos h]
theorem inclN_low {wd : Int} {m : Nat} {l : List ByteArray} {k h : Nat} (hh : h = half l.length) (h2 : 2 ≤ l.length) (hk : k < h) : inclN wd (m + 1) l k = inclN wd m (l.take h) k ++ [treeR wd (l.drop h)] := by
 subst hh; rw [inclN, if_neg (by omega), if_pos hk]
theorem inclN_high {wd : Int} {m : Nat} {l : List ByteArray} {k h : Nat} (hh : h = half l.length) (h2 : 2 ≤ l.length) (hk : h ≤ k) : inclN wd (m + 1) l k = inclN wd m (l.drop h) (k - h) ++ [treeR wd (l.take h)] := by
 subst hh; rw [inclN, if_neg (by omega), if_neg (by omega)]
theorem inclN_size {wd : Int} (hw : inR wd 1 32 = true) : ∀ (m : Nat) (l : List ByteArray) (k : Nat), (∀ s ∈ l, s.size = wd.toNat) → ∀ s ∈ inclN wd m l k, s.size = wd.toNat
 | 0, _, _, _, s, hs => absurd hs (by rw [inclN]; simp)
 | m + 1, l, k, h, s, hs => by
   have hd : ∀ s ∈ l.drop (half l.length), s.size = wd.toNat := fun s hs => h s (List.mem_of_mem_drop hs)
   have ht : ∀ s ∈ l.take (half l.length), s.size = wd.toNat := fun s hs => h s (List.mem_of_mem_take hs)
   rw [inclN] at hs
   split at hs
   · simp at hs
   · split at hs
     · rcases List.mem_append.1 hs with hs | hs
       · exact inclN_size hw m _ _ ht s hs
       · rw [List.mem_singleton.1 hs]; exact treeR_size hw _ _ (Nat.le_refl _) hd
     · rcases List.mem_append.1 hs with hs | hs
       · exact inclN_size hw m _ _ hd s hs
       · rw [List.mem_singleton.1 hs]; exact treeR_size hw _ _ (Nat.le_refl _) ht
theorem implPreHash_any (n : Int) (d : PreD) (w : World) (hd : d.Ok) : Calls Tryz.prog 32 #[.int .i64 n, .agg #[.int .i64 d.tag, .string d.text]] w fun e w' => e = .returned (.tuple #[.string (digest n d.tag d.text), .bool (digestOk n d.tag d.text)]) ∧ Ext w w' := by
 obtain ⟨_, k1⟩ := hd
 have he := hU (Ext.new (Below.refl w.heap.size w) (.cells #[.int .i64 d.tag, .string d.text] 88))
 go_enter Tryz.func32, Tryz.ntmps32
 go_wp2_with fail
 refine (Digest_any n d.tag d.text _ k1).mono ?_
 rintro e w1 ⟨rfl, h1⟩
 have he2 := he.out.next h1
 go_wp2_with fail
 go_ret2
 exact ⟨rfl, he2⟩
def brokenB (n : Int) (a b : PreD) : Bool := digestOk n a.tag a.text && digestOk n b.tag b.text && ((digest n a.tag a.text).toList == (digest n b.tag b.text).toList) && !(a.eqb b)
end Go.Proofs.YtgeengkdgdjcjaaGreat

/-
  InclP; InfoInt; Gapless; GivenTo; AppSrc: No condition.
-/
import Derived.Test.YtgeengkdgdjcjaaTreeP
import Derived.Test.YtgeengkdgdjcjaaMem
import Derived.Test.YtgeengkdgdjcjaaTexts
import Derived.Test.YtgeengkdgdjcjaaNString
import Derived.Laws.AppendOwnNone
import Derived.Tactics
namespace Go.Proofs.Ytgeengkdgdjcjaa
set_option linter.unusedSimpArgs false
open Go.RowKit
set_option linter.unusedVariables false
def inclN (wd : Int) : Nat → List ByteArray → Nat → List ByteArray
 | 0, _, _ => []
 | m + 1, l, k => if l.length ≤ 1 then [] else if k < half l.length then inclN wd m (l.take (half l.length)) k ++ [treeR wd (l.drop (half l.length))] else inclN wd m (l.drop (half l.length)) (k - half l.length) ++ [treeR wd (l.take (half l.length))]
theorem inclN_len (wd : Int) : ∀ (m : Nat) (l : List ByteArray) (k : Nat), (inclN wd m l k).length ≤ m
 | 0, _, _ => Nat.le_refl _
 | m + 1, l, k => by
   rw [inclN]
   split
   · exact Nat.zero_le _
   · split
     · have := inclN_len wd m (l.take (half l.length)) k
       simp; omega
     · have := inclN_len wd m (l.drop (half l.length)) (k - half l.length)
       simp; omega
theorem inclN_one {wd : Int} {m : Nat} {l : List ByteArray} {k : Nat} (h : l.length ≤ 1) : inclN wd m l k = [] := by
 cases m with
 | zero => rfl
 | succ m => rw [inclN, if_pos h]
theorem inclN_low {wd : Int} {m : Nat} {l : List ByteArray} {k h : Nat} (hh : h = half l.length) (h2 : 2 ≤ l.length) (hk : k < h) : inclN wd (m + 1) l k = inclN wd m (l.take h) k ++ [treeR wd (l.drop h)] := by
 subst hh; rw [inclN, if_neg (by omega), if_pos hk]
theorem inclN_high {wd : Int} {m : Nat} {l : List ByteArray} {k h : Nat} (hh : h = half l.length) (h2 : 2 ≤ l.length) (hk : h ≤ k) : inclN wd (m + 1) l k = inclN wd m (l.drop h) (k - h) ++ [treeR wd (l.take h)] := by
 subst hh; rw [inclN, if_neg (by omega), if_neg (by omega)]
theorem inclN_size {wd : Int} (hw : inR wd 1 32 = true) : ∀ (m : Nat) (l : List ByteArray) (k : Nat), (∀ s ∈ l, s.size = wd.toNat) → ∀ s ∈ inclN wd m l k, s.size = wd.toNat
 | 0, _, _, _, s, hs => absurd hs (by rw [inclN]; simp)
 | m + 1, l, k, h, s, hs => by
   have hd : ∀ s ∈ l.drop (half l.length), s.size = wd.toNat := fun s hs => h s (List.mem_of_mem_drop hs)
   have ht : ∀ s ∈ l.take (half l.length), s.size = wd.toNat := fun s hs => h s (List.mem_of_mem_take hs)
   rw [inclN] at hs
   split at hs
   · simp at hs
   · split at hs
     · rcases List.mem_append.1 hs with hs | hs
       · exact inclN_size hw m _ _ ht s hs
       · rw [List.mem_singleton.1 hs]; exact treeR_size hw _ _ (Nat.le_refl _) hd
     · rcases List.mem_append.1 hs with hs | hs
       · exact inclN_size hw m _ _ hd s hs
       · rw [List.mem_singleton.1 hs]; exact treeR_size hw _ _ (Nat.le_refl _) ht
theorem info_int : (Try.prog.info? 3).map (fun i => (i.zero, i.size, i.bytes)) = some (some (.int .i64 0), 1, 8) := by kernel_rfl
theorem info_string : (Try.prog.info? 9).map (fun i => (i.zero, i.size, i.bytes)) = some (some (.string ⟨#[]⟩), 1, 16) := by kernel_rfl
section
variable {l : List GivenD} {who : Int} {topic : ByteArray} {fin : Bool} {k n : Nat} {last : Int}
end

def SrcL (w : World) (x : Value) (m size : Nat) (news : List Value) : Prop :=
 ((∃ c, x = .slice none 0 c) ∧ m = 0 ∧ news = []) ∨ ∃ ad c, x = .slice (some ad) m c ∧ news.length = m * size ∧ ∀ j u, news[j]? = some u → w.cell? (ad.add j) = some u
theorem srcL_keep {w w' : World} {x : Value} {m size : Nat} {news : List Value} (h : SrcL w x m size news) (hk : ∀ p : Addr, ∀ u, w.cell? p = some u → w'.cell? p = some u) : SrcL w' x m size news := by
 rcases h with h | ⟨ad, c, h1, h2, h3⟩
 · exact .inl h
 · exact .inr ⟨ad, c, h1, h2, fun j u hu => hk _ _ (h3 j u hu)⟩
theorem run_append_none {P : Program} {w : World} (base : Nat) (t ty e : TypeId) (i : TypeInfo) (size c : Nat) (ht : P.underlying t = some (.slice e)) (hi : P.info? e = some i)
 (v : Value) (n : Nat) (xs : List Value) (hown : w.ownsRow base e size v n xs) :
 (Builtin.append_ #[t, t] ty #[v, .slice none 0 c]).run P w = .ok v w := by
 rcases hown.2 with ⟨rfl, rfl⟩ | ⟨g, cap, cur, rfl, _, _, hnc, _⟩
 · simp [Builtin.append_, run_underlying ht, sizeOf, typeInfo, hi, Builtin.lenOf, Builtin.firstCells]
 · simp [Builtin.append_, run_underlying ht, sizeOf, typeInfo, hi, Builtin.lenOf, Builtin.firstCells, hnc, storeCells]
end Go.Proofs.Ytgeengkdgdjcjaa

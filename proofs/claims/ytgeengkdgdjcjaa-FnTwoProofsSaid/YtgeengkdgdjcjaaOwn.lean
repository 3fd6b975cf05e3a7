/-
  Own: No condition.
-/
import Derived.Test.YtgeengkdgdjcjaaMem
import Derived.Laws.OwnMore
import Derived.OwnWalk
namespace Go.Proofs.Ytgeengkdgdjcjaa
set_option linter.unusedSimpArgs false
open Go.RowKit
set_option linter.unusedVariables false
theorem Ext.ownGrown {W w w' : World} {B e size n : Nat} {v : Value} {xs : List Value} (he : Ext W w) (hown : w.ownsRow B e size v n xs) (hg : w.grownBy w' v.ownBlock) (hB : W.heap.size ≤ B) : Ext W w' :=
 Below.grown he hg he.size (fun k hk => Nat.le_trans hB (hown.lt k hk).1)
theorem ownsRow_ext {w w' : World} {B e size n : Nat} {v : Value} {xs : List Value} (h : w.ownsRow B e size v n xs) (he : Ext w w') : w'.ownsRow B e size v n xs := by
 refine ⟨h.1, ?_⟩
 rcases h.2 with h1 | ⟨g, cap, cur, hv, hg, hh, hrest⟩
 · exact .inl h1
 · exact .inr ⟨g, cap, cur, hv, hg, (he.block g (Blk.lt (t := e) (cs := cur) hh)).trans hh, hrest⟩
theorem ownsRow_form {w : World} {B e size n : Nat} {v : Value} {xs : List Value} (h : w.ownsRow B e size v n xs) : ∃ A c, v = .slice A n c ∧ n ≤ c := by
 rcases h.2 with ⟨h1, h2⟩ | ⟨g, cap, cur, hv, hg, hh, hn, hrest⟩
 · exact ⟨none, 0, by rw [h1, h2], by omega⟩
 · exact ⟨_, cap, hv, hn⟩
theorem ownsRow_base {w : World} {B B' e size n : Nat} {v : Value} {xs : List Value} (h : w.ownsRow B e size v n xs) (hB : B' ≤ B) : w.ownsRow B' e size v n xs := by
 refine ⟨h.1, ?_⟩
 rcases h.2 with h1 | ⟨g, cap, cur, hv, hg, hrest⟩
 · exact .inl h1
 · exact .inr ⟨g, cap, cur, hv, Nat.le_trans hB hg, hrest⟩
theorem one_at (w : World) (u : Value) (t : TypeId) : ∀ j v, [u][j]? = some v → (w.alloc (.cells #[u] t)).cell? ((⟨w.heap.size, 0, none⟩ : Addr).add j) = some v := by
 intro j v hj
 match j, hj with
 | 0, hj =>
   obtain rfl : u = v := by simpa using hj
   rw [add_mk, (Blk.new w t #[u]).cell]; rfl
theorem one_cell {u : Value} (h : u.oneCell' = true) : ∀ v ∈ [u], v.oneCell' = true := by
 intro v hv
 obtain rfl : v = u := by simpa using hv
 exact h
theorem ownsRow_empty (w : World) (e size : TypeId) : (w.alloc (.cells #[] e)).ownsRow w.heap.size e size (.slice (some ⟨w.heap.size, 0, none⟩) 0 0) 0 [] :=
 ⟨by simp, .inr ⟨w.heap.size, 0, #[], rfl, Nat.le_refl _, heap_alloc_new w _, Nat.le_refl _, Nat.zero_le _, by simp, by simp⟩⟩
end Go.Proofs.Ytgeengkdgdjcjaa

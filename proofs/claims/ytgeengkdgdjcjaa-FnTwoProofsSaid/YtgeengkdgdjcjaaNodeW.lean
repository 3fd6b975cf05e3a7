/-
  PathSz; NodeW: No condition.
-/
import Derived.Test.YtgeengkdgdjcjaaSteps
import Derived.Test.YtgeengkdgdjcjaaPath
import Derived.Test.YtgeengkdgdjcjaaHashTop
namespace Go.Proofs.Ytgeengkdgdjcjaa
set_option linter.unusedSimpArgs false
open Go.RowKit
theorem pathIn_sizes (w : Int) (leaf : ByteArray) (hl : leaf.size ≤ 32) : ∀ (ps : List ByteArray) (n a : Nat), (∀ p ∈ ps, p.size ≤ 32) → ∀ t ∈ (pathIn w leaf n a ps).2, t.size ≤ 64
 | [], _, _, _, t, ht => by rw [pathIn] at ht; simp at ht
 | p :: ps, n, a, hp, t, ht => by
   have q1 := pathIn_le w leaf hl ps (half n) a
   have q2 := pathIn_le w leaf hl ps (n - half n) (a - half n)
   have q5 := hp p List.mem_cons_self
   rw [pathIn] at ht
   split at ht
   · simp at ht
   · split at ht
     · rcases List.mem_append.1 ht with h | h
       · exact pathIn_sizes w leaf hl ps _ _ (fun q hq => hp q (List.mem_cons_of_mem _ hq)) t h
       · obtain rfl := List.mem_singleton.1 h
         rw [ByteArray.size_append]; omega
     · rcases List.mem_append.1 ht with h | h
       · exact pathIn_sizes w leaf hl ps _ _ (fun q hq => hp q (List.mem_cons_of_mem _ hq)) t h
       · obtain rfl := List.mem_singleton.1 h
         rw [ByteArray.size_append]; omega
theorem textsIn_small (w n a : Int) (leaf : ByteArray) (l : List ByteArray) : (textsIn w n a leaf l).length ≤ 512 ∧ ∀ t ∈ textsIn w n a leaf l, t.size ≤ 64 := by
 cases h : inOk w n a leaf l
 · rw [(bad_in h).2]; exact ⟨by simp, by simp⟩
 · obtain ⟨hw, hl, hs, hn, ha, hst⟩ := inOk_facts h
   rw [textsIn, if_pos h]
   have h1 := pathIn_texts w leaf l.reverse n.toNat a.toNat
   have h2 : l.length ≤ 512 := by
    rw [← hst]
    exact Nat.le_trans (stepsF_le _ _ _) (by omega)
   rw [List.length_reverse] at h1
   exact ⟨by omega, pathIn_sizes w leaf (by omega) l.reverse _ _ (fun p hp => by have := hs p (by simpa using hp); omega)⟩
set_option maxHeartbeats 1000000
set_option linter.unusedVariables false
theorem node_any (n : Int) (a b : ByteArray) (w : World) (ha : a.size ≤ 1000) (hb : b.size ≤ 1000) : Calls Try.prog 58 #[.int .i64 n, .string a, .string b] w fun e w' => e = .returned (.string (nodeT n (a ++ b))) ∧ Ext w w' := by
 have hs : (a ++ b).size ≤ maxLen := by rw [ByteArray.size_append]; unfold maxLen; omega
 go_enter Try.func58, Try.ntmps58
 go_wp2_with fail
 refine (Digest_any n 1 (a ++ b) _ hs).mono ?_
 rintro e w1 ⟨rfl, h1⟩
 go_wp2_with fail
 go_ret
 exact ⟨rfl, h1⟩
end Go.Proofs.Ytgeengkdgdjcjaa

/-
  Pres0: No condition.
-/
import Derived.Test.YtgeengkdgdjcjaaGreatItemOps
import Derived.Test.YtgeengkdgdjcjaaGreatMeetEnd
namespace Go.Proofs.YtgeengkdgdjcjaaGreat
set_option linter.unusedSimpArgs false
open Go.RowKit
set_option linter.unusedVariables false
def nodeP (t : ByteArray) : PreD := ⟨1, t⟩
def nodesP (ts : List ByteArray) : List PreD := ts.map nodeP
theorem nodesP_len (ts : List ByteArray) : (nodesP ts).length = ts.length := by simp [nodesP]
theorem nodesP_snoc (ts : List ByteArray) (x : ByteArray) : nodesP (ts ++ [x]) = nodesP ts ++ [nodeP x] := by simp [nodesP]
theorem nodesP_take {ts : List ByteArray} {k : Nat} (hk : k < ts.length) : nodesP (ts.take (k + 1)) = nodesP (ts.take k) ++ [nodeP ts[k]] := by
 rw [List.take_succ_eq_append_getElem hk, nodesP_snoc]
def pathP (n tag : Int) (text : ByteArray) (size a : Int) (l : List ByteArray) : List PreD := ⟨tag, text⟩ :: nodesP (textsIn n size a (digest n tag text) l)
def betwP (n : Int) (d : ItemD) : List PreD := nodesP (textsB n d.old.size d.old.root d.head.size d.proof) ++ nodesP (textsB n d.old.taken d.old.takenRoot d.head.taken d.more)
def presOf (n : Int) (d : ItemD) : List PreD :=
 if itemOk n d then
  if d.kind = 2 then pathP n 0 (leafText d.entry) d.head.size d.leaf d.proof
  else if d.kind = 3 then pathP n 2 (receiptText d.receipt) d.head.taken d.leaf d.proof
  else betwP n d
 else []
theorem presOf_no {n : Int} {d : ItemD} (h : itemOk n d = false) : presOf n d = [] := by simp [presOf, h]
theorem presOf_2 {n : Int} {d : ItemD} (h : itemOk n d = true) (k : d.kind = 2) : presOf n d = pathP n 0 (leafText d.entry) d.head.size d.leaf d.proof := by simp [presOf, h, k]
theorem presOf_3 {n : Int} {d : ItemD} (h : itemOk n d = true) (k : d.kind = 3) : presOf n d = pathP n 2 (receiptText d.receipt) d.head.taken d.leaf d.proof := by simp [presOf, h, k]
theorem presOf_1 {n : Int} {d : ItemD} (h : itemOk n d = true) (k2 : d.kind ≠ 2) (k3 : d.kind ≠ 3) : presOf n d = betwP n d := by simp [presOf, h, k2, k3]
theorem pathIn_sizes (w : Int) (leaf : ByteArray) (hl : leaf.size ≤ 32) : ∀ (ps : List ByteArray) (n a : Nat), (∀ p ∈ ps, p.size ≤ 32) → ∀ t ∈ (pathIn w leaf n a ps).2, t.size ≤ 64
 | [], _, _, _, t, ht => by rw [pathIn] at ht; simp at ht
 | p :: ps, n, a, hp, t, ht => by
   have q1 := pathIn_le w leaf hl ps (half n) a
   have q2 := pathIn_le w leaf hl ps (n - half n) (a - half n)
   have q5 := hp p List.mem_cons_self
   rw [pathIn] at ht
   split at ht
   · simp at ht
   · split at ht
     · rcases List.mem_append.1 ht with h | h
       · exact pathIn_sizes w leaf hl ps _ _ (fun q hq => hp q (List.mem_cons_of_mem _ hq)) t h
       · obtain rfl := List.mem_singleton.1 h
         rw [ByteArray.size_append]; omega
     · rcases List.mem_append.1 ht with h | h
       · exact pathIn_sizes w leaf hl ps _ _ (fun q hq => hp q (List.mem_cons_of_mem _ hq)) t h
       · obtain rfl := List.mem_singleton.1 h
         rw [ByteArray.size_append]; omega
theorem pathB_sizes (w : Int) (root : ByteArray) (hr : root.size ≤ 32) : ∀ (ps : List ByteArray) (a n : Nat) (b : Bool), (∀ p ∈ ps, p.size ≤ 32) → ∀ t ∈ (pathB w root a n b ps).texts, t.size ≤ 64
 | [], _, _, _, _, t, ht => by rw [pathB] at ht; simp at ht
 | p :: ps, a, n, b, hp, t, ht => by
   have hp' : ∀ q ∈ ps, q.size ≤ 32 := fun q hq => hp q (List.mem_cons_of_mem _ hq)
   have q1 := pathB_le w root hr ps a (half n) b hp'
   have q2 := pathB_le w root hr ps (a - half n) (n - half n) false hp'
   have q5 := hp p List.mem_cons_self
   rw [pathB] at ht
   split at ht
   · split at ht <;> simp at ht
   · split at ht
     · rcases List.mem_append.1 ht with h | h
       · exact pathB_sizes w root hr ps _ _ _ hp' t h
       · obtain rfl := List.mem_singleton.1 h
         rw [ByteArray.size_append]; omega
     · rcases List.mem_append.1 ht with h | h
       · exact pathB_sizes w root hr ps _ _ _ hp' t h
       · simp only [List.mem_cons, List.not_mem_nil, or_false] at h
         rcases h with rfl | rfl <;> (rw [ByteArray.size_append]; omega)
theorem textsIn_small (w n a : Int) (leaf : ByteArray) (l : List ByteArray) : (textsIn w n a leaf l).length ≤ 512 ∧ ∀ t ∈ textsIn w n a leaf l, t.size ≤ 64 := by
 cases h : inOk w n a leaf l
 · rw [(bad_in h).2]; exact ⟨by simp, by simp⟩
 · obtain ⟨hw, hl, hs, hn, ha, hst⟩ := inOk_facts h
   rw [textsIn, if_pos h]
   have h1 := pathIn_texts w leaf l.reverse n.toNat a.toNat
   have h2 : l.length ≤ 512 := by
    rw [← hst]
    exact Nat.le_trans (stepsF_le _ _ _) (by omega)
   rw [List.length_reverse] at h1
   exact ⟨by omega, pathIn_sizes w leaf (by omega) l.reverse _ _ (fun p hp => by have := hs p (by simpa using hp); omega)⟩
theorem textsB_small (w a : Int) (root : ByteArray) (n : Int) (l : List ByteArray) : (textsB w a root n l).length ≤ 1026 ∧ ∀ t ∈ textsB w a root n l, t.size ≤ 64 := by
 cases h : betwOk w a root n l
 · rw [(bad_betw h).2.2]; exact ⟨by simp, by simp⟩
 · obtain ⟨hw, hl, hs, h1, h2, h3, hst⟩ := betwOk_facts h
   rw [textsB, if_pos h]
   have hp : ∀ p ∈ l.reverse, p.size ≤ 32 := fun p hp => by have := hs p (by simpa using hp); omega
   have q := (pathB_le w root (by omega) l.reverse a.toNat n.toNat true hp).2.2
   have h4 : l.length ≤ 513 := by
    rw [← hst]
    exact Nat.le_trans (betwF_le _ _ _ _) (by omega)
   rw [List.length_reverse] at q
   exact ⟨by omega, pathB_sizes w root (by omega) l.reverse _ _ _ hp⟩
theorem nodesP_ok {ts : List ByteArray} (h : ∀ t ∈ ts, t.size ≤ 64) : ∀ p ∈ nodesP ts, p.Ok := by
 intro p hp
 obtain ⟨t, ht, rfl⟩ := List.mem_map.1 hp
 exact ⟨rfl, small_max (Nat.le_trans (h t ht) (by decide))⟩
theorem pathP_small {n tag : Int} {text : ByteArray} {size a : Int} {l : List ByteArray} (ht : (Lit.int .i64 tag).wf = true) (hs : text.size ≤ 1000) : (pathP n tag text size a l).length ≤ 513 ∧ ∀ p ∈ pathP n tag text size a l, p.Ok := by
 obtain ⟨h1, h2⟩ := textsIn_small n size a (digest n tag text) l
 constructor
 · rw [pathP, List.length_cons, nodesP_len]; omega
 · intro p hp
   rcases List.mem_cons.1 hp with rfl | hp
   · exact ⟨ht, small_max hs⟩
   · exact nodesP_ok h2 p hp
theorem presOf_small (n : Int) (d : ItemD) : (presOf n d).length ≤ 2052 ∧ ∀ p ∈ presOf n d, p.Ok := by
 cases h : itemOk n d
 · rw [presOf_no h]; exact ⟨by simp, by simp⟩
 by_cases k2 : d.kind = 2
 · rw [presOf_2 h k2]
   obtain ⟨h1, h2⟩ := pathP_small (n := n) (tag := 0) (size := d.head.size) (a := d.leaf) (l := d.proof) rfl (leafText_size d.entry)
   exact ⟨by omega, h2⟩
 by_cases k3 : d.kind = 3
 · rw [presOf_3 h k3]
   obtain ⟨h1, h2⟩ := pathP_small (n := n) (tag := 2) (size := d.head.taken) (a := d.leaf) (l := d.proof) rfl (receiptText_size d.receipt)
   exact ⟨by omega, h2⟩
 rw [presOf_1 h k2 k3]
 obtain ⟨a1, a2⟩ := textsB_small n d.old.size d.old.root d.head.size d.proof
 obtain ⟨b1, b2⟩ := textsB_small n d.old.taken d.old.takenRoot d.head.taken d.more
 constructor
 · rw [betwP, List.length_append, nodesP_len, nodesP_len]; omega
 · intro p hp
   rcases List.mem_append.1 hp with h | h
   · exact nodesP_ok a2 p h
   · exact nodesP_ok b2 p h
def presUp (n : Int) (l : List ItemD) (k : Nat) : List PreD := (l.take k).flatMap (presOf n)
theorem presUp_zero (n : Int) (l : List ItemD) : presUp n l 0 = [] := by simp [presUp]
theorem presUp_next {n : Int} {l : List ItemD} {k : Nat} {d : ItemD} (h : l[k]? = some d) : presUp n l (k + 1) = presUp n l k ++ presOf n d := by
 obtain ⟨hk, rfl⟩ := List.getElem?_eq_some_iff.1 h
 unfold presUp
 rw [List.take_succ_eq_append_getElem hk, List.flatMap_append]
 simp
theorem presUp_len (n : Int) (l : List ItemD) : ∀ k, (presUp n l k).length ≤ 2052 * k
 | 0 => by simp [presUp]
 | k + 1 => by
   by_cases hk : k < l.length
   · rw [presUp_next (List.getElem?_eq_getElem hk), List.length_append]
     have := presUp_len n l k
     have := (presOf_small n l[k]).1
     omega
   · have := presUp_len n l k
     have e : presUp n l (k + 1) = presUp n l k := by unfold presUp; rw [List.take_of_length_le (by omega), List.take_of_length_le (by omega)]
     rw [e]; omega
theorem presUp_ok (n : Int) (l : List ItemD) (k : Nat) : ∀ p ∈ presUp n l k, p.Ok := by
 intro p hp
 obtain ⟨d, hd, h⟩ := List.mem_flatMap.1 hp
 exact (presOf_small n d).2 p h
end Go.Proofs.YtgeengkdgdjcjaaGreat

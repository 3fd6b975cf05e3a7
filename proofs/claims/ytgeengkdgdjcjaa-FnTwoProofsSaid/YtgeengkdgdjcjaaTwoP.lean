/-
  TwoP: No condition.
-/
import Derived.Test.YtgeengkdgdjcjaaAppSrc
import Derived.Test.YtgeengkdgdjcjaaMeetEnd
namespace Go.Proofs.Ytgeengkdgdjcjaa
set_option linter.unusedSimpArgs false
open Go.RowKit
set_option linter.unusedVariables false
theorem app_two {a b c d : ByteArray} (h : a ++ b = c ++ d) (hs : a.size = c.size) : a = c ∧ b = d := by
 have h1 := ByteArray.append_inj_left h hs
 subst h1
 refine ⟨rfl, ?_⟩
 have h2 : a.data ++ b.data = a.data ++ d.data := by rw [← ByteArray.data_append, ← ByteArray.data_append, h]
 apply ByteArray.ext
 exact Array.append_right_inj _ |>.1 h2
theorem pathIn_size {w : Int} (hw : inR w 1 32 = true) {leaf : ByteArray} (hl : leaf.size = w.toNat) : ∀ (ps : List ByteArray) (n a : Nat), (∀ s ∈ ps, s.size = w.toNat) → (pathIn w leaf n a ps).1.size = w.toNat
 | [], _, _, _ => by rw [pathIn]; exact hl
 | p :: ps, n, a, h => by
   have hw2 := inR_true hw
   have hp := h p (by simp)
   have h1 := pathIn_size hw hl ps (half n) a (fun s hs => h s (by simp [hs]))
   have h2 := pathIn_size hw hl ps (n - half n) (a - half n) (fun s hs => h s (by simp [hs]))
   rw [pathIn]
   split
   · exact hl
   · split
     · exact nodeT_size hw (by rw [ByteArray.size_append, h1, hp]; omega)
     · exact nodeT_size hw (by rw [ByteArray.size_append, h2, hp]; omega)
def Twain (w : Int) (A B : List ByteArray) : Prop := ∃ t u, t ∈ A ∧ u ∈ B ∧ t ≠ u ∧ nodeT w t = nodeT w u ∧ t.size ≤ 64 ∧ u.size ≤ 64
theorem Twain.more {w : Int} {A B : List ByteArray} (h : Twain w A B) (x y : ByteArray) : Twain w (A ++ [x]) (B ++ [y]) := by
 obtain ⟨t, u, h1, h2, h3⟩ := h
 exact ⟨t, u, List.mem_append_left _ h1, List.mem_append_left _ h2, h3⟩
theorem Twain.last {w : Int} {A B : List ByteArray} {x y : ByteArray} (h : x ≠ y) (e : nodeT w x = nodeT w y) (hx : x.size ≤ 64) (hy : y.size ≤ 64) : Twain w (A ++ [x]) (B ++ [y]) := ⟨x, y, by simp, by simp, h, e, hx, hy⟩
theorem two_ways {w : Int} (hw : inR w 1 32 = true) {lf lg : ByteArray} (hf : lf.size = w.toNat) (hg : lg.size = w.toNat) : ∀ (p q : List ByteArray) (n a : Nat), p.length = q.length → stepsN n a = p.length → (∀ s ∈ p, s.size = w.toNat) → (∀ s ∈ q, s.size = w.toNat) →
 (pathIn w lf n a p).1 = (pathIn w lg n a q).1 → (lf = lg ∧ p = q) ∨ Twain w (pathIn w lf n a p).2 (pathIn w lg n a q).2
 | [], [], n, a, _, _, _, _, h => by
   rw [pathIn, pathIn] at h
   exact Or.inl ⟨h, rfl⟩
 | [], y :: q, n, a, hl, _, _, _, _ => by simp at hl
 | x :: p, [], n, a, hl, _, _, _, _ => by simp at hl
 | x :: p, y :: q, n, a, hl, hs, hp, hq, h => by
   have hw2 := inR_true hw
   have hpx := hp x (by simp)
   have hqy := hq y (by simp)
   have hp2 : ∀ s ∈ p, s.size = w.toNat := fun s hs => hp s (by simp [hs])
   have hq2 : ∀ s ∈ q, s.size = w.toNat := fun s hs => hq s (by simp [hs])
   have hl2 : p.length = q.length := by simpa using hl
   rw [pathIn, pathIn] at h ⊢
   by_cases h1 : n ≤ 1
   · rw [stepsN_one h1] at hs; simp at hs
   rw [if_neg h1, if_neg h1] at h ⊢
   by_cases h2 : a < half n
   · rw [if_pos h2, if_pos h2] at h ⊢
     rw [stepsN_lo (by omega) h2] at hs
     have s1 := pathIn_size hw hf p (half n) a hp2
     have s2 := pathIn_size hw hg q (half n) a hq2
     have ih := two_ways hw hf hg p q (half n) a hl2 (by simpa using hs) hp2 hq2
     by_cases e : (pathIn w lf (half n) a p).1 ++ x = (pathIn w lg (half n) a q).1 ++ y
     · obtain ⟨e1, e2⟩ := app_two e (by rw [s1, s2])
       rcases ih e1 with ⟨i1, i2⟩ | i
       · exact Or.inl ⟨i1, by rw [i2, e2]⟩
       · exact Or.inr (i.more _ _)
     · exact Or.inr (Twain.last e h (by rw [ByteArray.size_append]; omega) (by rw [ByteArray.size_append]; omega))
   · rw [if_neg h2, if_neg h2] at h ⊢
     rw [stepsN_hi (by omega) h2] at hs
     have s1 := pathIn_size hw hf p (n - half n) (a - half n) hp2
     have s2 := pathIn_size hw hg q (n - half n) (a - half n) hq2
     have ih := two_ways hw hf hg p q (n - half n) (a - half n) hl2 (by simpa using hs) hp2 hq2
     by_cases e : x ++ (pathIn w lf (n - half n) (a - half n) p).1 = y ++ (pathIn w lg (n - half n) (a - half n) q).1
     · obtain ⟨e1, e2⟩ := app_two e (by rw [hpx, hqy])
       rcases ih e2 with ⟨i1, i2⟩ | i
       · exact Or.inl ⟨i1, by rw [i2, e1]⟩
       · exact Or.inr (i.more _ _)
     · exact Or.inr (Twain.last e h (by rw [ByteArray.size_append]; omega) (by rw [ByteArray.size_append]; omega))
theorem meetAt_some {n : Int} {l : List PreD} {k i j : Nat} (h : meetAt n l k = some (i, j)) : j = k ∧ i < k ∧ clashB n l k i = true := by
 unfold meetAt at h
 rw [Option.map_eq_some_iff] at h
 obtain ⟨x, h1, h2⟩ := h
 cases h2
 exact ⟨rfl, List.mem_range.1 (List.mem_of_find?_eq_some h1), List.find?_some h1⟩
theorem meetGo_some {n : Int} {l : List PreD} : ∀ (f p i k : Nat), meetGo n l f p = some (i, k) → i < k ∧ clashB n l k i = true
 | 0, p, i, k, h => by rw [meetGo] at h; cases h
 | f + 1, p, i, k, h => by
   rw [meetGo] at h
   cases e : meetAt n l p with
   | none => rw [e] at h; exact meetGo_some f (p + 1) i k h
   | some x =>
     rw [e] at h
     obtain ⟨a, b⟩ := x
     simp only [Option.some.injEq, Prod.mk.injEq] at h
     obtain ⟨rfl, rfl⟩ := h
     obtain ⟨h1, h2, h3⟩ := meetAt_some e
     subst h1
     exact ⟨h2, h3⟩
theorem meetGo_none {n : Int} {l : List PreD} : ∀ (f p : Nat), meetGo n l f p = none → ∀ k, p ≤ k → k < p + f → meetAt n l k = none
 | 0, p, _, k, h1, h2 => absurd h1 (by omega)
 | f + 1, p, h, k, h1, h2 => by
   rw [meetGo] at h
   cases e : meetAt n l p with
   | none =>
     rw [e] at h
     by_cases ek : k = p
     · rw [ek]; exact e
     · exact meetGo_none f (p + 1) h k (by omega) (by omega)
   | some x => rw [e] at h; cases h
theorem clash_parts {n : Int} {l : List PreD} {k i : Nat} (h : clashB n l k i = true) : ∃ a b, l[i]? = some a ∧ l[k]? = some b ∧ clashP n a b = true := by
 unfold clashB at h
 cases ha : l[i]? with
 | none => rw [ha] at h; cases h
 | some a =>
   cases hb : l[k]? with
   | none => rw [ha, hb] at h; cases h
   | some b => rw [ha, hb] at h; exact ⟨a, b, rfl, rfl, h⟩
theorem clash_broken {n : Int} {a b : PreD} (h : clashP n a b = true) : brokenB n a b = true := by
 simp only [clashP, Bool.and_eq_true] at h
 obtain ⟨⟨h1, h2⟩, h3⟩ := h
 rw [brokenB, same_ok h2, h1, h2, h3]; rfl
theorem clash_turn {n : Int} {a b : PreD} (h : clashP n a b = true) : clashP n b a = true := by
 have h0 := h
 simp only [clashP, Bool.and_eq_true] at h0
 obtain ⟨⟨h1, h2⟩, h3⟩ := h0
 have e : a ≠ b := fun e => by rw [e, PreD.eqb_self] at h3; cases h3
 have e2 : b.eqb a = false := by
  cases hb : b.eqb a
  · rfl
  · exact absurd ((PreD.eqb_iff b a).1 hb).symm e
 rw [clashP, same_ok h2, h1, hash_eq.2 (hash_eq.1 h2).symm, e2]; rfl
theorem meet_found {n : Int} {l : List PreD} (h : meetOk n l = true) : brokenB n (meetA n l) (meetB n l) = true := by
 rw [meetOk, Option.isSome_iff_exists] at h
 obtain ⟨⟨i, k⟩, h⟩ := h
 have h0 := h
 unfold meet at h0
 split at h0
 · obtain ⟨h1, h2⟩ := meetGo_some _ _ _ _ h0
   obtain ⟨a, b, ha, hb, hc⟩ := clash_parts h2
   obtain ⟨e1, e2, _⟩ := meet_vals h ha hb
   rw [e1, e2]
   exact clash_broken hc
 · cases h0
theorem meet_mem {n : Int} {l : List PreD} (h : meetOk n l = true) : meetA n l ∈ l ∧ meetB n l ∈ l := by
 rw [meetOk, Option.isSome_iff_exists] at h
 obtain ⟨⟨i, k⟩, h⟩ := h
 have h0 := h
 unfold meet at h0
 split at h0
 · obtain ⟨h1, h2⟩ := meetGo_some _ _ _ _ h0
   obtain ⟨a, b, ha, hb, hc⟩ := clash_parts h2
   obtain ⟨e1, e2, _⟩ := meet_vals h ha hb
   rw [e1, e2]
   exact ⟨List.mem_of_getElem? ha, List.mem_of_getElem? hb⟩
 · cases h0
theorem meet_some {n : Int} {l : List PreD} {a b : PreD} (hn : inR n 1 32 = true) (hl : l.length ≤ 6000) (ha : a ∈ l) (hb : b ∈ l) (hc : clashP n a b = true) : meetOk n l = true := by
 have hne : a ≠ b := fun e => by
  simp only [clashP, Bool.and_eq_true] at hc
  rw [e, PreD.eqb_self] at hc; cases hc.2
 cases hm : meet n l with
 | some x => rw [meetOk, hm]; rfl
 | none =>
   exfalso
   unfold meet at hm
   rw [hn, decide_eq_true hl, Bool.and_self, if_pos rfl] at hm
   have hall := meetGo_none _ _ hm
   obtain ⟨i, hi⟩ := List.getElem?_of_mem ha
   obtain ⟨k, hk⟩ := List.getElem?_of_mem hb
   have li := (List.getElem?_eq_some_iff.1 hi).1
   have lk := (List.getElem?_eq_some_iff.1 hk).1
   rcases Nat.lt_trichotomy i k with h | h | h
   · have := meetAt_none.1 (hall k (Nat.zero_le _) (by omega)) i h
     rw [clash_of hi hk, hc] at this; cases this
   · subst h; rw [hi] at hk; exact hne (Option.some.inj hk)
   · have := meetAt_none.1 (hall i (Nat.zero_le _) (by omega)) k h
     rw [clash_of hk hi, clash_turn hc] at this; cases this
def ndL (ts : List ByteArray) : List PreD := ts.map (fun t => ⟨1, t⟩)
theorem twain_clash {w : Int} (hw : inR w 1 32 = true) {A B : List ByteArray} (h : Twain w A B) : ∃ a b, a ∈ ndL A ∧ b ∈ ndL B ∧ clashP w a b = true := by
 obtain ⟨t, u, h1, h2, h3, h4, h5, h6⟩ := h
 refine ⟨⟨1, t⟩, ⟨1, u⟩, List.mem_map.2 ⟨t, h1, rfl⟩, List.mem_map.2 ⟨u, h2, rfl⟩, ?_⟩
 have e1 : digestOk w 1 u = true := by rw [digestOk, hw]; simp [inR]; omega
 have e2 : (PreD.eqb ⟨1, t⟩ ⟨1, u⟩) = false := by
  cases hb : PreD.eqb ⟨1, t⟩ ⟨1, u⟩
  · rfl
  · have := (PreD.eqb_iff _ _).1 hb
    cases this; exact absurd rfl h3
 have e3 : ((digest w 1 t).toList == (digest w 1 u).toList) = true := by
  have h4 : digest w 1 t = digest w 1 u := h4
  rw [h4]; exact beq_self_eq_true _
 show (digestOk w 1 u && ((digest w 1 t).toList == (digest w 1 u).toList) && !(PreD.eqb ⟨1, t⟩ ⟨1, u⟩)) = true
 rw [e1, e2, e3]; rfl
theorem check_way {w : Int} {root : ByteArray} {n a : Int} {lf : ByteArray} {p : List ByteArray} (h : checkIn w root n a lf p = true) : inOk w n a lf p = true ∧ (pathIn w lf n.toNat a.toNat p.reverse).1 = root ∧ textsIn w n a lf p = (pathIn w lf n.toNat a.toNat p.reverse).2 := by
 rw [checkIn, Bool.and_eq_true] at h
 obtain ⟨h1, h2⟩ := h
 have : rootIn w n a lf p = root := by simpa [bytes_eq_iff] using h2
 rw [rootIn, if_pos h1] at this
 exact ⟨h1, this, by rw [textsIn, if_pos h1]⟩
theorem texts_len {w : Int} {n a : Int} {lf : ByteArray} {p : List ByteArray} (h : inOk w n a lf p = true) : (textsIn w n a lf p).length ≤ 1024 ∧ p.length ≤ 1024 := by
 obtain ⟨h1, h2, h3, h4, h5, h6⟩ := inOk_facts h
 have := stepsN_le n.toNat n.toNat a.toNat (Nat.le_refl _) (by omega)
 have h7 := pathIn_texts w lf p.reverse n.toNat a.toNat
 rw [textsIn, if_pos h]
 rw [List.length_reverse] at h7
 exact ⟨by omega, by omega⟩
theorem two_checked {w : Int} {root : ByteArray} {n a : Int} {lf lg : ByteArray} {p q : List ByteArray} (h1 : checkIn w root n a lf p = true) (h2 : checkIn w root n a lg q = true) (hne : ¬ (lf = lg ∧ p = q)) : Twain w (textsIn w n a lf p) (textsIn w n a lg q) := by
 obtain ⟨o1, r1, t1⟩ := check_way h1
 obtain ⟨o2, r2, t2⟩ := check_way h2
 obtain ⟨a1, a2, a3, a4, a5, a6⟩ := inOk_facts o1
 obtain ⟨b1, b2, b3, b4, b5, b6⟩ := inOk_facts o2
 have hw : inR w 1 32 = true := by simp only [inR, Bool.and_eq_true, decide_eq_true_eq]; omega
 have := two_ways hw (lf := lf) (lg := lg) (by omega) (by omega) p.reverse q.reverse n.toNat a.toNat (by simp; omega) (by simp; omega) (fun s hs => by have := a3 s (List.mem_reverse.1 hs); omega) (fun s hs => by have := b3 s (List.mem_reverse.1 hs); omega) (by rw [r1, r2])
 rcases this with ⟨e1, e2⟩ | h
 · exact absurd ⟨e1, List.reverse_inj.1 e2⟩ hne
 · rw [t1, t2]; exact h
theorem two_found {w : Int} {root : ByteArray} {n a : Int} {lf lg : ByteArray} {p q : List ByteArray} (h1 : checkIn w root n a lf p = true) (h2 : checkIn w root n a lg q = true) (hne : ¬ (lf = lg ∧ p = q)) :
 meetOk w (ndL (textsIn w n a lf p) ++ ndL (textsIn w n a lg q)) = true := by
 obtain ⟨o1, _, _⟩ := check_way h1
 obtain ⟨o2, _, _⟩ := check_way h2
 obtain ⟨a1, _⟩ := inOk_facts o1
 have hw : inR w 1 32 = true := by simp only [inR, Bool.and_eq_true, decide_eq_true_eq]; omega
 obtain ⟨x, y, hx, hy, hc⟩ := twain_clash hw (two_checked h1 h2 hne)
 have l1 := (texts_len o1).1
 have l2 := (texts_len o2).1
 exact meet_some hw (by simp [ndL]; omega) (List.mem_append_left _ hx) (List.mem_append_right _ hy) hc
theorem incl_root {w : Int} : ∀ (m : Nat) (l : List ByteArray) (k : Nat) (x : ByteArray), l.length ≤ m → l[k]? = some x → (pathIn w x l.length k (inclN w m l k).reverse).1 = treeR w l ∧ stepsN l.length k = (inclN w m l k).length
 | 0, l, k, x, hm, hx => by
   have := (List.getElem?_eq_some_iff.1 hx).1
   omega
 | m + 1, l, k, x, hm, hx => by
   have hk := (List.getElem?_eq_some_iff.1 hx).1
   by_cases h1 : l.length ≤ 1
   · rw [inclN_one h1, stepsN_one h1]
     obtain ⟨y, rfl⟩ : ∃ y, l = [y] := by
      match l, hk, h1 with
      | [y], _, _ => exact ⟨y, rfl⟩
      | _ :: _ :: _, _, h => simp at h
     obtain rfl : k = 0 := by simpa using hk
     have : y = x := by simpa using hx
     subst this
     exact ⟨rfl, rfl⟩
   · have l1 := half_lt (n := l.length) (by omega)
     have l2 := half_pos l.length
     have tr : treeR w l = nodeT w (treeR w (l.take (half l.length)) ++ treeR w (l.drop (half l.length))) := by
      unfold treeR
      rw [mroot_more _ _ (by omega)]; rfl
     by_cases h2 : k < half l.length
     · have t1 : (l.take (half l.length)).length = half l.length := by rw [List.length_take]; omega
       obtain ⟨i1, i2⟩ := incl_root (w := w) m (l.take (half l.length)) k x (by omega) (by rw [List.getElem?_take_of_lt h2]; exact hx)
       rw [t1] at i1 i2
       rw [inclN_low rfl (by omega) h2, List.reverse_append]
       refine ⟨?_, by rw [stepsN_lo (by omega) h2, i2]; simp⟩
       show (pathIn w x l.length k (treeR w (l.drop (half l.length)) :: (inclN w m (l.take (half l.length)) k).reverse)).1 = _
       rw [pathIn, if_neg h1, if_pos h2, i1, tr]
     · have t1 : (l.drop (half l.length)).length = l.length - half l.length := List.length_drop ..
       obtain ⟨i1, i2⟩ := incl_root (w := w) m (l.drop (half l.length)) (k - half l.length) x (by omega) (by rw [List.getElem?_drop]; rw [show half l.length + (k - half l.length) = k by omega]; exact hx)
       rw [t1] at i1 i2
       rw [inclN_high rfl (by omega) (by omega), List.reverse_append]
       refine ⟨?_, by rw [stepsN_hi (by omega) h2, i2]; simp⟩
       show (pathIn w x l.length k (treeR w (l.take (half l.length)) :: (inclN w m (l.drop (half l.length)) (k - half l.length)).reverse)).1 = _
       rw [pathIn, if_neg h1, if_neg h2, i1, tr]
theorem incl_good {w : Int} (hw : inR w 1 32 = true) {l : List ByteArray} {k : Nat} {x : ByteArray} (hl : l.length ≤ 512) (hs : ∀ s ∈ l, s.size = w.toNat) (hx : l[k]? = some x) : checkIn w (treeR w l) (l.length : Int) (k : Int) x (inclN w 512 l k) = true := by
 have hw2 := inR_true hw
 obtain ⟨h1, h2⟩ := incl_root (w := w) 512 l k x hl hx
 have hk := (List.getElem?_eq_some_iff.1 hx).1
 have hxs := hs x (List.mem_of_getElem? hx)
 have ok : inOk w (l.length : Int) (k : Int) x (inclN w 512 l k) = true := by
  have e1 : ((x.size : Int) == w) = true := by rw [beq_iff_eq]; omega
  have e2 : hashes w (inclN w 512 l k) = true := by
   rw [hashes, List.all_eq_true]
   intro s h
   have := inclN_size hw 512 l k hs s h
   rw [beq_iff_eq]; omega
  have e3 : inR (l.length : Int) 0 512 = true := by simp only [inR, Bool.and_eq_true, decide_eq_true_eq]; omega
  have e4 : inR (k : Int) 0 ((l.length : Int) - 1) = true := by simp only [inR, Bool.and_eq_true, decide_eq_true_eq]; omega
  rw [inOk, hw, e1, e2, stepsIn, e3, e4]
  simp only [Bool.and_self, Bool.true_and, if_true, Int.toNat_natCast, beq_iff_eq]
  omega
 rw [checkIn, ok, rootIn, if_pos ok]
 simp only [Int.toNat_natCast, h1, beq_self_eq_true, Bool.and_self]
end Go.Proofs.Ytgeengkdgdjcjaa

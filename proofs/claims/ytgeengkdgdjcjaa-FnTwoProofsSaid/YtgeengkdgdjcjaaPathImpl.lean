/-
  PathImpl: No condition.
-/
import Derived.Test.YtgeengkdgdjcjaaPathOps
import Derived.Test.YtgeengkdgdjcjaaOwn
import Derived.Test.YtgeengkdgdjcjaaNodeW
namespace Go.Proofs.Ytgeengkdgdjcjaa
set_option maxHeartbeats 2000000
set_option maxRecDepth 100000
set_option linter.unusedSimpArgs false
open Go.RowKit
set_option linter.unusedVariables false
theorem info_text : (Try.prog.info? 9).map (fun i => (i.zero, i.size, i.bytes)) = some (some (.string ⟨#[]⟩), 1, 16) := by kernel_rfl
def OwnT (B : Nat) (w : World) (v : Value) (ts : List ByteArray) : Prop := w.ownsRow B 9 1 v ts.length (ts.flatMap sone)
theorem sone_snoc (ts : List ByteArray) (x : ByteArray) : ts.flatMap sone ++ [.string x] = (ts ++ [x]).flatMap sone := by simp [sone]
theorem ReadsL.init {w : World} {B : Nat} {A : Option Addr} {ps : List ByteArray} {p : ByteArray} (h : ReadsL w B sone 1 A (ps ++ [p])) :
 ReadsL w B sone 1 A ps ∧ ∃ b off, A = some ⟨b, off, none⟩ ∧ b < B ∧ w.cell? ⟨b, off + ps.length, none⟩ = some (.string p) := by
 have e : (ps ++ [p]).flatMap sone = ps.flatMap sone ++ [.string p] := by simp [sone]
 have el : (ps.flatMap sone).length = ps.length := by rw [flat_len sone 1 sone_length]; omega
 obtain ⟨b, off, rfl, hb, hc⟩ := h.2 (by simp)
 rw [e] at hc
 refine ⟨⟨by rw [el]; omega, fun _ => ⟨b, off, rfl, hb, fun j u hj => hc j u ?_⟩⟩, b, off, rfl, hb, hc _ _ ?_⟩
 · rw [List.getElem?_append_left (List.getElem?_eq_some_iff.1 hj).1]; exact hj
 · rw [List.getElem?_append_right (by omega), el]; simp
def FoldAt (w : World) (g : Nat) (wd : Int) (K : Nat) (ts : List ByteArray) : Prop := ∃ v, Blk w g 70 #[.int .i64 wd, v] ∧ OwnT K w v ts
theorem ownsRow_pf {w w' : World} {K g e size n : Nat} {v : Value} {xs : List Value} (h : w.ownsRow K e size v n xs) (k : ExtBut g w w') (hg : g < K) : w'.ownsRow K e size v n xs := by
 refine ⟨h.1, ?_⟩
 rcases h.2 with h1 | ⟨b, cap, cur, hv, hb, hh, hrest⟩
 · exact .inl h1
 · exact .inr ⟨b, cap, cur, hv, hb, (k.block b (Blk.lt (t := e) (cs := cur) hh) (by simp; omega)).trans hh, hrest⟩
theorem folderNode_any (W : World) (g K : Nat) (wd : Int) (a b : ByteArray) (ts : List ByteArray) (w : World) (ha : a.size ≤ 1000) (hb : b.size ≤ 1000) (hts : ts.length ≤ 4194304) (hg : W.heap.size ≤ g) (hgK : g < K) (hK : K ≤ w.heap.size) (he : Ext W w) (hF : FoldAt w g wd K ts) :
 Calls Try.prog 48 #[.pointer (some ⟨g, 0, none⟩), .string a, .string b] w fun e w' => e = .returned (.string (nodeT wd (a ++ b))) ∧ FoldAt w' g wd K (ts ++ [a ++ b]) ∧ K ≤ w'.heap.size ∧ Ext W w' := by
 obtain ⟨v, hB, hown⟩ := hF
 obtain ⟨i0, hi, hz0, hz1, hz2⟩ := info_parts info_text
 obtain ⟨A, c, rfl, hnc⟩ := ownsRow_form hown
 obtain ⟨hc, hf⟩ := hB.rules
 have c0 : w.cell? ⟨g, 0, none⟩ = some (.int .i64 wd) := hc 0
 have c1 : w.cell? ⟨g, 1, none⟩ = some (.slice A ts.length c) := hc 1
 clear hc hf
 have KO := hU (show w.ownsRow K 9 1 (.slice A ts.length c) ts.length (ts.flatMap sone) from hown); clear hown
 have HB := hU hB; clear hB
 have hsz : ¬ 9223372036854775807 < a.size + b.size := by omega
 go_enter Try.func48, Try.ntmps48
 go_wp2_with (at_builtin; refine wpList_append_own _ rfl _ _ 24 rfl K 9 i0 (.string ⟨#[]⟩) 1 16 Try.underlying24 hi hz0 hz1 hz2 rfl (by decide) _ _ _ rfl (KO.out.alloc _) ⟨w.heap.size, 0, none⟩ 1 1 [.string (a ++ b)] rfl rfl ?d1 ?d2 ?d3 ?d4 ?d5 ?_)
 case d1 => exact one_at _ _ _
 case d2 => exact one_cell rfl
 case d3 => unfold maxLen; omega
 case d4 => omega
 case d5 => simp; omega
 intro v' w2 hown' hgrow _
 have hK1 : K ≤ (w.alloc (.cells #[.string (a ++ b)] 9)).heap.size := by simp; omega
 have B2 : Blk w2 g 70 #[.int .i64 wd, .slice A ts.length c] := ((Below.grown (Below.refl K _) hgrow hK1 (fun k hk => ((KO.out.alloc (.cells #[.string (a ++ b)] 9)).lt k hk).1)).block g hgK).trans (HB.out.alloc _)
 have he2 := Ext.ownGrown (he.new (.cells #[.string (a ++ b)] 9)) (KO.out.alloc (.cells #[.string (a ++ b)] 9)) hgrow (by omega)
 have hs2 := hgrow.size
 rw [sone_snoc] at hown'
 obtain ⟨A2, c2, rfl, hnc2⟩ := ownsRow_form hown'
 have B3 := B2.set_ 1 (.slice A2 (ts.length + 1) c2)
 have O3 := hU (ownsRow_pf hown' ((ExtBut.refl g w2).set_ 1 (.slice A2 (ts.length + 1) c2)) hgK)
 have E3 := hU (Below.setCell he2 (p := ⟨g, 1, none⟩) hg (.slice A2 (ts.length + 1) c2))
 have S3 : K ≤ (w2.setCell ⟨g, 1, none⟩ (.slice A2 (ts.length + 1) c2)).heap.size := by simp [World.setCell]; simp at hs2; omega
 have H3 := hU B3; clear B3
 obtain ⟨hc, hf⟩ := B2.rules
 have q1 : w2.cell? ⟨g, 1, none⟩ = some (.slice A ts.length c) := hc 1
 clear hown' hgrow he2 KO HB c0 c1 B2 hc
 go_upto_region 2 with fail
 generalize w2.setCell ⟨g, 1, none⟩ (.slice A2 (ts.length + 1) c2) = w3 at *
 obtain ⟨hc, hf⟩ := H3.out.rules
 have q0 : w3.cell? ⟨g, 0, none⟩ = some (.int .i64 wd) := hc 0
 clear hc
 go_wp2_with fail
 refine (node_any wd a b _ ha hb).mono ?_
 rintro e w4 ⟨rfl, h1⟩
 go_wp2_with fail
 go_ret
 refine ⟨rfl, ⟨_, H3.out.ext h1, ?_⟩, Nat.le_trans S3 h1.size, Ext.next E3.out h1⟩
 have := ownsRow_ext O3.out h1
 unfold OwnT
 rw [List.length_append, List.length_singleton]
 exact this
theorem pathIn_lo {w : Int} {leaf p : ByteArray} {n a : Nat} {ps : List ByteArray} (h1 : 1 < n) (h2 : a < half n) : pathIn w leaf n a (ps ++ [p]).reverse = (nodeT w ((pathIn w leaf (half n) a ps.reverse).1 ++ p), (pathIn w leaf (half n) a ps.reverse).2 ++ [(pathIn w leaf (half n) a ps.reverse).1 ++ p]) := by
 rw [List.reverse_append, List.reverse_singleton, List.singleton_append, pathIn, if_neg (by omega), if_pos h2]
theorem pathIn_hi {w : Int} {leaf p : ByteArray} {n a : Nat} {ps : List ByteArray} (h1 : 1 < n) (h2 : ¬ a < half n) : pathIn w leaf n a (ps ++ [p]).reverse = (nodeT w (p ++ (pathIn w leaf (n - half n) (a - half n) ps.reverse).1), (pathIn w leaf (n - half n) (a - half n) ps.reverse).2 ++ [p ++ (pathIn w leaf (n - half n) (a - half n) ps.reverse).1]) := by
 rw [List.reverse_append, List.reverse_singleton, List.singleton_append, pathIn, if_neg (by omega), if_neg h2]
theorem snoc_of {l : List ByteArray} {k : Nat} (h : l.length = k + 1) : ∃ ps p, l = ps ++ [p] ∧ ps.length = k := by
 obtain ⟨ps, p, rfl⟩ := List.eq_nil_or_concat l |>.resolve_left (by rintro rfl; simp at h)
 exact ⟨ps, p, by simp, by simpa using h⟩
theorem folderRoot_any (W : World) (g K : Nat) (wd : Int) (leaf : ByteArray) (hleaf : leaf.size ≤ 32) (c : Nat) (hg : W.heap.size ≤ g) (hgK : g < K) : ∀ (k : Nat) (l : List ByteArray) (A : Option Addr) (n a : Nat) (ts : List ByteArray) (w : World), l.length = k → k ≤ c → k ≤ 1048576 → (∀ s ∈ l, s.size ≤ 32) → stepsN n a = k → 1 ≤ n → n ≤ 512 → a < n → ts.length + k ≤ 4194304 → K ≤ w.heap.size → Ext W w → FoldAt w g wd K ts → ReadsL W W.heap.size sone 1 A l →
 Calls Try.prog 39 #[.pointer (some ⟨g, 0, none⟩), .int .i64 (n : Int), .int .i64 (a : Int), .string leaf, .slice A k c] w fun e w' => e = .returned (.string (pathIn wd leaf n a l.reverse).1) ∧ FoldAt w' g wd K (ts ++ (pathIn wd leaf n a l.reverse).2) ∧ K ≤ w'.heap.size ∧ Ext W w' := by
 intro k
 induction k with
 | zero =>
   intro l A n a ts w hl hc hm hs hst hn hn5 ha ht hK he hF hr
   obtain rfl := List.eq_nil_of_length_eq_zero hl
   have h1 : n = 1 := by
    rcases Nat.lt_or_ge 1 n with h | h
    · by_cases h2 : a < half n
      · rw [stepsN_lo h h2] at hst; omega
      · rw [stepsN_hi h h2] at hst; omega
    · omega
   subst h1
   go_enter Try.func39, Try.ntmps39
   go_wp2_with fail
   go_ret
   exact ⟨rfl, by simpa [pathIn] using hF, hK, he⟩
 | succ k ih =>
   intro l A n a ts w hl hc hm hs hst hn hn5 ha ht hK he hF hr
   obtain ⟨ps, p, rfl, hpl⟩ := snoc_of hl
   have h1 : 1 < n := by
    rcases Nat.lt_or_ge 1 n with h | h
    · exact h
    · rw [stepsN_one h] at hst; omega
   obtain ⟨hr0, b, off, rfl, hb, hp⟩ := hr.init
   rw [hpl] at hp
   have sp : p.size ≤ 32 := hs p (by simp)
   have sps : ∀ s ∈ ps, s.size ≤ 32 := fun s h => hs s (by simp [h])
   have l1 := half_lt (n := n) (by omega)
   have l2 := half_pos n
   have d1 : ((n : Int) == 1) = false := by simp; omega
   have hk1 : ((k + 1 : Nat) : Int) - 1 = (k : Int) := by omega
   have HF := hU hF; clear hF
   have Hr := hU hr0; clear hr0 hr
   have Hs := hU sps; clear sps hs
   have Hp := hU hp; clear hp
   clear hl
   by_cases h2 : a < half n
   · have hst2 : stepsN (half n) a = k := by rw [stepsN_lo h1 h2] at hst; omega
     have E := hU (pathIn_lo (w := wd) (leaf := leaf) (p := p) (ps := ps) h1 h2)
     have Le := pathIn_le wd leaf hleaf ps.reverse (half n) a
     have Lt := pathIn_texts wd leaf ps.reverse (half n) a
     rw [List.length_reverse, hpl] at Lt
     have d2 : decide ((a : Int) < ((half n : Nat) : Int)) = true := by rw [decide_eq_true_iff]; omega
     go_enter Try.func39, Try.ntmps39
     go_wp2_with (go_at_call 47; refine (HalfOf_any n _ (by omega) hn5).mono ?_; rintro e w' ⟨rfl, rfl⟩)
     refine (ih ps (some ⟨b, off, none⟩) (half n) a ts _ hpl (by omega) (by omega) Hs.out hst2 (by omega) (by omega) (by omega) (by omega) hK he HF.out Hr.out).mono ?_
     rintro e w1 ⟨rfl, hF1, hK1, he1⟩
     generalize pathIn wd leaf (half n) a ps.reverse = X at *
     have q0 : w1.cell? ⟨b, off + k, none⟩ = some (.string p) := (he1.cell (p := ⟨b, off + k, none⟩) hb).trans Hp.out
     go_wp2_with fail
     refine (folderNode_any W g K wd X.1 p (ts ++ X.2) _ (by omega) (by omega) (by rw [List.length_append]; omega) hg hgK hK1 he1 hF1).mono ?_
     rintro e w2 ⟨rfl, hF2, hK2, he2⟩
     go_wp2_with fail
     go_ret
     rw [E.out]
     exact ⟨rfl, by rw [← List.append_assoc]; exact hF2, hK2, he2⟩
   · have hst2 : stepsN (n - half n) (a - half n) = k := by rw [stepsN_hi h1 h2] at hst; omega
     have E := hU (pathIn_hi (w := wd) (leaf := leaf) (p := p) (ps := ps) h1 h2)
     have Le := pathIn_le wd leaf hleaf ps.reverse (n - half n) (a - half n)
     have Lt := pathIn_texts wd leaf ps.reverse (n - half n) (a - half n)
     rw [List.length_reverse, hpl] at Lt
     have d2 : decide ((a : Int) < ((half n : Nat) : Int)) = false := by rw [decide_eq_false_iff_not]; omega
     have e1 : (n : Int) - ((half n : Nat) : Int) = ((n - half n : Nat) : Int) := by omega
     have e2 : (a : Int) - ((half n : Nat) : Int) = ((a - half n : Nat) : Int) := by omega
     go_enter Try.func39, Try.ntmps39
     go_wp2_with (go_at_call 47; refine (HalfOf_any n _ (by omega) hn5).mono ?_; rintro e w' ⟨rfl, rfl⟩)
     refine (ih ps (some ⟨b, off, none⟩) (n - half n) (a - half n) ts _ hpl (by omega) (by omega) Hs.out hst2 (by omega) (by omega) (by omega) (by omega) hK he HF.out Hr.out).mono ?_
     rintro e w1 ⟨rfl, hF1, hK1, he1⟩
     generalize pathIn wd leaf (n - half n) (a - half n) ps.reverse = X at *
     have q0 : w1.cell? ⟨b, off + k, none⟩ = some (.string p) := (he1.cell (p := ⟨b, off + k, none⟩) hb).trans Hp.out
     go_wp2_with fail
     refine (folderNode_any W g K wd p X.1 (ts ++ X.2) _ (by omega) (by omega) (by rw [List.length_append]; omega) hg hgK hK1 he1 hF1).mono ?_
     rintro e w2 ⟨rfl, hF2, hK2, he2⟩
     go_wp2_with fail
     go_ret
     rw [E.out]
     exact ⟨rfl, by rw [← List.append_assoc]; exact hF2, hK2, he2⟩
end Go.Proofs.Ytgeengkdgdjcjaa

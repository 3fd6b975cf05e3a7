/-
  PathI2: No condition.
-/
import Derived.Test.YtgeengkdgdjcjaaGreatPathImpl
import Derived.Test.YtgeengkdgdjcjaaGreatSteps
import Derived.BigQuiet
namespace Go.Proofs.YtgeengkdgdjcjaaGreat
set_option maxHeartbeats 1500000
set_option maxRecDepth 100000
set_option linter.unusedSimpArgs false
open Go.RowKit
set_option linter.unusedVariables false
theorem pathB_end {w : Int} {root p : ByteArray} {a n : Nat} (h : n ≤ a) : pathB w root a n false ([] ++ [p]).reverse = ⟨p, p, []⟩ := by
 rw [List.nil_append, List.reverse_singleton, pathB, if_pos h]; rfl
theorem pathB_lo {w : Int} {root p : ByteArray} {n a : Nat} {b : Bool} {ps : List ByteArray} (h1 : a < n) (h2 : a ≤ half n) : pathB w root a n b (ps ++ [p]).reverse = ⟨(pathB w root a (half n) b ps.reverse).small, nodeT w ((pathB w root a (half n) b ps.reverse).big ++ p), (pathB w root a (half n) b ps.reverse).texts ++ [(pathB w root a (half n) b ps.reverse).big ++ p]⟩ := by
 rw [List.reverse_append, List.reverse_singleton, List.singleton_append, pathB, if_neg (by omega), if_pos h2]
theorem pathB_hi {w : Int} {root p : ByteArray} {n a : Nat} {b : Bool} {ps : List ByteArray} (h1 : a < n) (h2 : ¬ a ≤ half n) : pathB w root a n b (ps ++ [p]).reverse = ⟨nodeT w (p ++ (pathB w root (a - half n) (n - half n) false ps.reverse).small), nodeT w (p ++ (pathB w root (a - half n) (n - half n) false ps.reverse).big), (pathB w root (a - half n) (n - half n) false ps.reverse).texts ++ [p ++ (pathB w root (a - half n) (n - half n) false ps.reverse).small, p ++ (pathB w root (a - half n) (n - half n) false ps.reverse).big]⟩ := by
 rw [List.reverse_append, List.reverse_singleton, List.singleton_append, pathB, if_neg (by omega), if_neg h2]
theorem folderRoots_any (W : World) (g K : Nat) (wd : Int) (root : ByteArray) (hroot : root.size ≤ 32) (c : Nat) (hg : W.heap.size ≤ g) (hgK : g < K) : ∀ (k : Nat) (l : List ByteArray) (A : Option Addr) (a n : Nat) (wh : Bool) (ts : List ByteArray) (w : World), l.length = k → k ≤ c → k ≤ 1048576 → (∀ s ∈ l, s.size ≤ 32) → betwN a n wh = k → 1 ≤ a → a ≤ n → n ≤ 512 → ts.length + 2 * k ≤ 4194304 → K ≤ w.heap.size → Ext W w → FoldAt w g wd K ts → ReadsL W W.heap.size sone 1 A l →
 Calls Tryz.prog 227 #[.pointer (some ⟨g, 0, none⟩), .int .i64 (a : Int), .string root, .int .i64 (n : Int), .slice A k c, .bool wh] w fun e w' => e = .returned (.tuple #[.string (pathB wd root a n wh l.reverse).small, .string (pathB wd root a n wh l.reverse).big]) ∧ FoldAt w' g wd K (ts ++ (pathB wd root a n wh l.reverse).texts) ∧ K ≤ w'.heap.size ∧ Ext W w' := by
 intro k
 induction k with
 | zero =>
   intro l A a n wh ts w hl hc hm hs hst ha0 han hn5 ht hK he hF hr
   obtain rfl := List.eq_nil_of_length_eq_zero hl
   have h1 : n = a := by
    rcases Nat.lt_or_ge a n with h | h
    · by_cases h2 : a ≤ half n
      · rw [betwN_lo ha0 h h2] at hst; omega
      · rw [betwN_hi ha0 h h2] at hst; omega
    · omega
   subst h1
   obtain rfl : wh = true := by rw [betwN_done (Nat.le_refl _)] at hst; cases wh <;> simp_all
   have d1 : ((n : Int) == (n : Int)) = true := by simp
   go_enter Tryz.func227, Tryz.ntmps227
   go_wp2_with fail
   go_ret2
   exact ⟨rfl, by simpa [pathB] using hF, hK, he⟩
 | succ k ih =>
   intro l A a n wh ts w hl hc hm hs hst ha0 han hn5 ht hK he hF hr
   obtain ⟨ps, p, rfl, hpl⟩ := snoc_of hl
   obtain ⟨hr0, b, off, rfl, hb, hp⟩ := hr.init
   rw [hpl] at hp
   have sp : p.size ≤ 32 := hs p (by simp)
   have sps : ∀ s ∈ ps, s.size ≤ 32 := fun s h => hs s (by simp [h])
   have hk1 : ((k + 1 : Nat) : Int) - 1 = (k : Int) := by omega
   have HF := hU hF; clear hF
   have Hr := hU hr0; clear hr0 hr
   have Hs := hU sps; clear sps hs
   have Hp := hU hp; clear hp
   clear hl
   by_cases h1 : a < n
   case neg =>
    obtain rfl : n = a := by omega
    rw [betwN_done (Nat.le_refl _)] at hst
    obtain ⟨rfl, rfl⟩ : wh = false ∧ k = 0 := by cases wh <;> simp_all
    obtain rfl := List.eq_nil_of_length_eq_zero hpl
    have d1 : ((n : Int) == (n : Int)) = true := by simp
    have E := hU (pathB_end (w := wd) (root := root) (p := p) (Nat.le_refl n))
    have q0 : w.cell? ⟨b, off + 0, none⟩ = some (.string p) := (he.cell (p := ⟨b, off + 0, none⟩) hb).trans Hp.out
    have q1 : w.cell? ⟨b, off, none⟩ = some (.string p) := q0
    clear hst
    go_enter Tryz.func227, Tryz.ntmps227
    go_wp2_with fail
    go_quiet (fail)
    go_wp2_with fail
    go_ret2
    have E1 : pathB wd root n n false [p] = ⟨p, p, []⟩ := E.out
    have E2 : pathB wd root n n false [p].reverse = ⟨p, p, []⟩ := E.out
    first | rw [E.out] | rw [E1] | rw [E2]
    exact ⟨rfl, by have := HF.out.ext (Below.refl _ w); simpa using (HF.out.ext (Ext.drewN (Below.refl _ w) _)), hK, he.drewN _⟩
   have l1 := half_lt (n := n) (by omega)
   have l2 := half_pos n
   have d1 : ((a : Int) == (n : Int)) = false := by simp; omega
   by_cases h2 : a ≤ half n
   · have hst2 : betwN a (half n) wh = k := by rw [betwN_lo ha0 h1 h2] at hst; omega
     have E := hU (pathB_lo (w := wd) (root := root) (p := p) (b := wh) (ps := ps) h1 h2)
     have Le := pathB_le wd root hroot ps.reverse a (half n) wh (fun q hq => Hs.out q (List.mem_reverse.1 hq))
     rw [List.length_reverse, hpl] at Le
     obtain ⟨Le1, Le2, Le3⟩ := Le
     have d2 : decide ((a : Int) ≤ ((half n : Nat) : Int)) = true := by rw [decide_eq_true_iff]; omega
     go_enter Tryz.func227, Tryz.ntmps227
     go_wp2_with (go_at_call 138; refine (HalfOf_any n _ (by omega) hn5).mono ?_; rintro e w' ⟨rfl, rfl⟩)
     refine (ih ps (some ⟨b, off, none⟩) a (half n) wh ts _ hpl (by omega) (by omega) Hs.out hst2 ha0 h2 (by omega) (by omega) hK he HF.out Hr.out).mono ?_
     rintro e w1 ⟨rfl, hF1, hK1, he1⟩
     generalize pathB wd root a (half n) wh ps.reverse = X at *
     have q0 : w1.cell? ⟨b, off + k, none⟩ = some (.string p) := (he1.cell (p := ⟨b, off + k, none⟩) hb).trans Hp.out
     go_wp2_with fail
     refine (folderNode_any W g K wd X.big p (ts ++ X.texts) _ (by omega) (by omega) (by rw [List.length_append]; omega) hg hgK hK1 he1 hF1).mono ?_
     rintro e w2 ⟨rfl, hF2, hK2, he2⟩
     go_wp2_with fail
     go_ret2
     rw [E.out]
     exact ⟨rfl, by rw [← List.append_assoc]; exact hF2, hK2, he2⟩
   · have hst2 : betwN (a - half n) (n - half n) false = k := by rw [betwN_hi ha0 h1 h2] at hst; omega
     have E := hU (pathB_hi (w := wd) (root := root) (p := p) (b := wh) (ps := ps) h1 h2)
     have Le := pathB_le wd root hroot ps.reverse (a - half n) (n - half n) false (fun q hq => Hs.out q (List.mem_reverse.1 hq))
     rw [List.length_reverse, hpl] at Le
     obtain ⟨Le1, Le2, Le3⟩ := Le
     have d2 : decide ((a : Int) ≤ ((half n : Nat) : Int)) = false := by rw [decide_eq_false_iff_not]; omega
     have e1 : (n : Int) - ((half n : Nat) : Int) = ((n - half n : Nat) : Int) := by omega
     have e2 : (a : Int) - ((half n : Nat) : Int) = ((a - half n : Nat) : Int) := by omega
     go_enter Tryz.func227, Tryz.ntmps227
     go_wp2_with (go_at_call 138; refine (HalfOf_any n _ (by omega) hn5).mono ?_; rintro e w' ⟨rfl, rfl⟩)
     refine (ih ps (some ⟨b, off, none⟩) (a - half n) (n - half n) false ts _ hpl (by omega) (by omega) Hs.out hst2 (by omega) (by omega) (by omega) (by omega) hK he HF.out Hr.out).mono ?_
     rintro e w1 ⟨rfl, hF1, hK1, he1⟩
     generalize pathB wd root (a - half n) (n - half n) false ps.reverse = X at *
     have q0 : w1.cell? ⟨b, off + k, none⟩ = some (.string p) := (he1.cell (p := ⟨b, off + k, none⟩) hb).trans Hp.out
     go_wp2_with fail
     refine (folderNode_any W g K wd p X.small (ts ++ X.texts) _ (by omega) (by omega) (by rw [List.length_append]; omega) hg hgK hK1 he1 hF1).mono ?_
     rintro e w2 ⟨rfl, hF2, hK2, he2⟩
     have q1 : w2.cell? ⟨b, off + k, none⟩ = some (.string p) := (he2.cell (p := ⟨b, off + k, none⟩) hb).trans Hp.out
     clear q0
     go_wp2_with fail
     refine (folderNode_any W g K wd p X.big (ts ++ X.texts ++ [p ++ X.small]) _ (by omega) (by omega) (by rw [List.length_append, List.length_append, List.length_singleton]; omega) hg hgK hK2 he2 hF2).mono ?_
     rintro e w3 ⟨rfl, hF3, hK3, he3⟩
     go_wp2_with fail
     go_ret2
     rw [E.out]
     exact ⟨rfl, by have := hF3; simpa [List.append_assoc] using this, hK3, he3⟩
theorem ownT_nil (w : World) (B : Nat) : OwnT B w (.slice none 0 0) [] := World.ownsRow_nil w B 9 1
theorem beq_swap {a b : Int} {p : Bool} (h : (a == b) = p) : (b == a) = p := by rw [← h]; exact Bool.beq_comm ..
theorem rootBy_any (wd n a : Int) (leaf : ByteArray) (A : Option Addr) (c : Nat) (l : List ByteArray) (w : World) (hlf : leaf.size ≤ maxLen) (hlc : l.length ≤ c) (hl : l.length ≤ 1048576) (hr : ReadsL w w.heap.size sone 1 A l) :
 Calls Tryz.prog 225 #[.int .i64 wd, .int .i64 n, .int .i64 a, .string leaf, .slice A l.length c] w fun e w' => ∃ v, e = .returned (.tuple #[.string (rootIn wd n a leaf l), v, .bool (inOk wd n a leaf l)]) ∧ OwnT w.heap.size w' v (textsIn wd n a leaf l) ∧ Ext w w' := by
 have Hr := hU hr; clear hr
 cases b1 : inR wd 1 32
 · have e := (show inOk wd n a leaf l = false by simp [inOk, b1])
   have E := hU e; clear e
   obtain ⟨r1, r2⟩ := bad_in E.out
   rw [r1, r2, E.out]
   go_enter Tryz.func225, Tryz.ntmps225
   go_wp2_with (go_at_call 53; refine (isWidth_any _ _).mono ?_; rintro e w' ⟨rfl, rfl⟩; rw [b1])
   go_ret3
   exact ⟨_, rfl, ownT_nil _ _, Below.refl _ _⟩
 cases b2 : ((leaf.size : Int) == wd)
 · have e := (show inOk wd n a leaf l = false by simp [inOk, b2])
   have E := hU e; clear e
   obtain ⟨r1, r2⟩ := bad_in E.out
   rw [r1, r2, E.out]
   have c2 := ne_of_beq b2
   go_enter Tryz.func225, Tryz.ntmps225
   go_wp2_with (go_at_call 53; refine (isWidth_any _ _).mono ?_; rintro e w' ⟨rfl, rfl⟩; rw [b1])
   go_ret3
   exact ⟨_, rfl, ownT_nil _ _, Below.refl _ _⟩
 have c2 := ne_of_beq b2
 cases b3 : hashes wd l
 · have e := (show inOk wd n a leaf l = false by simp [inOk, b3])
   have E := hU e; clear e
   obtain ⟨r1, r2⟩ := bad_in E.out
   rw [r1, r2, E.out]
   go_enter Tryz.func225, Tryz.ntmps225
   go_wp2_with (first | (go_at_call 53; refine (isWidth_any _ _).mono ?_; rintro e w' ⟨rfl, rfl⟩; rw [b1]) | (go_at_call 137; refine (areHashes_any _ _ _ _ _ Hr.out hl).mono ?_; rintro e w1 ⟨rfl, h1⟩; rw [b3]))
   go_ret3
   exact ⟨_, rfl, ownT_nil _ _, by assumption⟩
 cases b4 : (stepsIn n a == (l.length : Int))
 · have e := (show inOk wd n a leaf l = false by simp [inOk, b4])
   have E := hU e; clear e
   obtain ⟨r1, r2⟩ := bad_in E.out
   rw [r1, r2, E.out]
   have c4 := beq_swap b4
   have c5 := ne_of_beq c4
   go_enter Tryz.func225, Tryz.ntmps225
   go_wp2_with (first | (go_at_call 53; refine (isWidth_any _ _).mono ?_; rintro e w' ⟨rfl, rfl⟩; rw [b1]) | (go_at_call 137; refine (areHashes_any _ _ _ _ _ Hr.out hl).mono ?_; rintro e w1 ⟨rfl, h1⟩; rw [b3]) | (go_at_call 262; refine (implStepsIn_any _ _ _).mono ?_; rintro e w' ⟨rfl, rfl⟩))
   go_ret3
   exact ⟨_, rfl, ownT_nil _ _, by assumption⟩
 have c4 := beq_swap b4
 have c5 := ne_of_beq c4
 have e : inOk wd n a leaf l = true := by simp [inOk, b1, b2, b3, b4]
 obtain ⟨⟨f0, f1⟩, f2, f3, ⟨f4, f5⟩, ⟨f6, f7⟩, f8⟩ := inOk_facts e
 have R : rootIn wd n a leaf l = (pathIn wd leaf n.toNat a.toNat l.reverse).1 := by rw [rootIn, if_pos e]
 have T : textsIn wd n a leaf l = (pathIn wd leaf n.toNat a.toNat l.reverse).2 := by rw [textsIn, if_pos e]
 rw [R, T, e]
 clear R T e
 have F3 := hU (show ∀ s ∈ l, s.size ≤ 32 from fun s hs => by have := f3 s hs; omega)
 clear f3
 obtain ⟨n, rfl⟩ := Int.eq_ofNat_of_zero_le f4
 obtain ⟨a, rfl⟩ := Int.eq_ofNat_of_zero_le f6
 rw [Int.toNat_natCast, Int.toNat_natCast] at *
 have F8 := hU f8; clear f8
 go_enter Tryz.func225, Tryz.ntmps225
 go_wp2_with (go_at_call 53; refine (isWidth_any _ _).mono ?_; rintro e w' ⟨rfl, rfl⟩; rw [b1])
 refine (areHashes_any _ _ _ _ _ Hr.out hl).mono ?_
 rintro e w1 ⟨rfl, h1⟩
 rw [b3]
 go_wp2_with (go_at_call 262; refine (implStepsIn_any _ _ _).mono ?_; rintro e w' ⟨rfl, rfl⟩)
 have B0 := Blk.new w1 277 #[.int .i64 wd, .slice none 0 0]
 have E0 := Ext.new h1 (.cells #[.int .i64 wd, .slice none 0 0] 277)
 have hs0 := h1.size
 obtain ⟨g, hg⟩ : ∃ g, g = w1.heap.size := ⟨_, rfl⟩
 rw [← hg] at B0 hs0
 rw [← hg]
 have hgs : g + 1 ≤ (w1.alloc (.cells #[.int .i64 wd, .slice none 0 0] 277)).heap.size := by rw [World.size_alloc]; omega
 clear hg h1
 generalize w1.alloc (.cells #[.int .i64 wd, .slice none 0 0] 277) = w2 at *
 refine (folderRoot_any w g (g + 1) wd leaf (by omega) c hs0 (by omega) l.length l A n a [] w2 rfl hlc hl F3.out F8.out (by omega) (by omega) (by omega) (by simp; omega) hgs E0 ⟨_, B0, ownT_nil _ _⟩ Hr.out).mono ?_
 rintro e w3 ⟨rfl, ⟨v, B3, O3⟩, _, he3⟩
 obtain ⟨A3, c3, rfl, _⟩ := ownsRow_form O3
 have O4 := hU O3; clear O3
 obtain ⟨hc, hf⟩ := B3.rules
 go_wp2_with fail
 go_quiet (fail)
 go_wp2_with fail
 go_ret3
 refine ⟨_, rfl, ?_, he3.drewN _⟩
 have := ownsRow_base O4.out (B' := w.heap.size) (by omega)
 rw [List.nil_append] at this
 exact ownsRow_ext this (Ext.drewN (Below.refl _ _) _)
end Go.Proofs.YtgeengkdgdjcjaaGreat

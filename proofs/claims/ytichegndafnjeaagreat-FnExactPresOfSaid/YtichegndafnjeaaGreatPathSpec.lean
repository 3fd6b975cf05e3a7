/-
  The reference's ways of proofs: walks. Written by program (gen_pathspec.py). No condition.
-/
import Derived.Test.YtichegndafnjeaaGreatPathImpl
import Derived.Test.YtichegndafnjeaaGreatSteps
import Derived.BigQuiet
namespace Go.Proofs.YtichegndafnjeaaGreat
open Go.RowKit
set_option linter.unusedVariables false

theorem extBut_setCells {g : Nat} {a : World} : ∀ (vs : List Value) (o : Nat) (w : World), ExtBut g a w → ExtBut g a (w.setCells g o vs)
  | [], _, _, h => h
  | v :: vs, o, w, h => extBut_setCells vs (o + 1) _ (h.set_ o v)
theorem ownT_put {K g : Nat} {w : World} {v : Value} {ts : List ByteArray} (h : OwnT K w v ts) (hg : g < K) (vs : List Value) (o : Nat) : OwnT K (w.setCells g o vs) v ts := ownsRow_far h (extBut_setCells vs o w (ExtBut.refl g w)) hg
theorem ownT_set {K g : Nat} {w : World} {v : Value} {ts : List ByteArray} (h : OwnT K w v ts) (hg : g < K) (o : Nat) (u : Value) : OwnT K (w.setCell ⟨g, o, none⟩ u) v ts := ownsRow_far h ((ExtBut.refl g w).set_ o u) hg
theorem OwnT.ext {K : Nat} {w w' : World} {v : Value} {ts : List ByteArray} (h : OwnT K w v ts) (he : Ext w w') : OwnT K w' v ts := ownsRow_ext h he
theorem OwnT.form {K : Nat} {w : World} {v : Value} {ts : List ByteArray} (h : OwnT K w v ts) : ∃ A c, v = .slice A ts.length c ∧ ts.length ≤ c := ownsRow_form h
theorem ownT_more {K : Nat} {w : World} {v : Value} {ts : List ByteArray} {K' : Nat} (h : OwnT K w v ts) (hK : K' ≤ K) : OwnT K' w v ts := ownsRow_base h hK
theorem size_set (w : World) (p : Addr) (u : Value) : (w.setCell p u).heap.size = w.heap.size := by simp [World.setCell]
theorem node_sz (wd : Int) (T : ByteArray) : digest wd 1 T = nodeT wd T := rfl
set_option maxHeartbeats 4000000 in
set_option maxRecDepth 100000 in
theorem l06In_any (wd : Int) (leaf : ByteArray) (hleaf : leaf.size ≤ 32) (c : Nat) : ∀ (k : Nat) (l : List ByteArray) (A : Option Addr) (n a : Nat) (w : World), l.length = k → k ≤ c → k ≤ 1048576 → (∀ s ∈ l, s.size ≤ 32) → stepsN n a = k → 1 ≤ n → n ≤ 512 → a < n → ReadsL w w.heap.size sone 1 A l →
    Calls Tryz.prog 92 #[.int .i64 wd, .int .i64 (n : Int), .int .i64 (a : Int), .string leaf, .slice A k c] w fun e w' => ∃ v, e = .returned (.agg #[.string ⟨#[]⟩, .string (pathIn wd leaf n a l.reverse).1, v]) ∧ OwnT w.heap.size w' v (pathIn wd leaf n a l.reverse).2 ∧ Ext w w' := by
  intro k
  induction k with
  | zero =>
    intro l A n a w hl hc hm hs hst hn hn5 ha hr
    obtain rfl := List.eq_nil_of_length_eq_zero hl
    have h1 : n = 1 := by
      rcases Nat.lt_or_ge 1 n with h | h
      · by_cases h2 : a < half n
        · rw [stepsN_lo h h2] at hst; omega
        · rw [stepsN_hi h h2] at hst; omega
      · omega
    subst h1
    have B0 := Blk.new w 133 #[.string ⟨#[]⟩, .string ⟨#[]⟩, .slice none 0 0]
    have B9 := Lib.hid (B0.put 0 [.string ⟨#[]⟩, .string leaf, .slice none 0 0] #[.string ⟨#[]⟩, .string leaf, .slice none 0 0] (by simp) (by simp))
    have E9 := Lib.hid (ext_setCells (g := w.heap.size) (Nat.le_refl _) [.string ⟨#[]⟩, .string leaf, .slice none 0 0] 0 _ (Ext.new (Below.refl w.heap.size w) (.cells #[.string ⟨#[]⟩, .string ⟨#[]⟩, .slice none 0 0] 133)))
    obtain ⟨hc0, hf0⟩ := B0.rules
    clear B0
    go_enter Tryz.func92, Tryz.ntmps92
    go_wp2_with fail
    first
    | refine ret_row rfl rfl B9.out Tryz.underlying133 rfl (by kernel_rfl) rfl ?_
      exact ⟨.slice none 0 0, by simp [pathIn], by rw [List.reverse_nil, pathIn]; exact World.ownsRow_nil _ _ 9 1, E9.out⟩
    | refine ret_row rfl rfl (Blk.new w 133 #[.string ⟨#[]⟩, .string leaf, .slice none 0 0]) Tryz.underlying133 rfl (by kernel_rfl) rfl ?_
      exact ⟨.slice none 0 0, by simp [pathIn], by rw [List.reverse_nil, pathIn]; exact World.ownsRow_nil _ _ 9 1, Ext.new (Below.refl w.heap.size w) _⟩
  | succ k ih =>
    intro l A n a w hl hc hm hs hst hn hn5 ha hr
    obtain ⟨ps, p, rfl, hpl⟩ := snoc_of hl
    have h1 : 1 < n := by
      rcases Nat.lt_or_ge 1 n with h | h
      · exact h
      · rw [stepsN_one h] at hst; omega
    obtain ⟨hr0, b, off, rfl, hb, hp⟩ := hr.init
    rw [hpl] at hp
    obtain ⟨i0, hi, hz0, hz1, hz2⟩ := info_parts info_text
    have sp : p.size ≤ 32 := hs p (by simp)
    have sps : ∀ s ∈ ps, s.size ≤ 32 := fun s h => hs s (by simp [h])
    have l1 := half_lt (n := n) (by omega)
    have l2 := half_pos n
    have d1 : decide ((n : Int) ≤ 1) = false := by rw [decide_eq_false_iff_not]; omega
    have d3 : (((k + 1 : Nat) : Int) == 0) = false := by simp; omega
    have hk1 : ((k + 1 : Nat) : Int) - 1 = (k : Int) := by omega
    have Hr := Lib.hid hr0; clear hr0 hr
    have Hs := Lib.hid sps; clear sps hs
    have Hp := Lib.hid hp; clear hp
    clear hl
    have B0 := (Blk.new w 133 #[.string ⟨#[]⟩, .string ⟨#[]⟩, .slice none 0 0]).alloc (.cells #[.string ⟨#[]⟩, .string ⟨#[]⟩, .slice none 0 0] 133)
    have B1 := Blk.new (w.alloc (.cells #[.string ⟨#[]⟩, .string ⟨#[]⟩, .slice none 0 0] 133)) 133 #[.string ⟨#[]⟩, .string ⟨#[]⟩, .slice none 0 0]
    rw [World.size_alloc] at B1
    have he := (Ext.new (Below.refl w.heap.size w) (.cells #[.string ⟨#[]⟩, .string ⟨#[]⟩, .slice none 0 0] 133)).new (.cells #[.string ⟨#[]⟩, .string ⟨#[]⟩, .slice none 0 0] 133)
    by_cases h2 : a < half n
    · have hst2 : stepsN (half n) a = k := by rw [stepsN_lo h1 h2] at hst; omega
      have E := Lib.hid (pathIn_lo (w := wd) (leaf := leaf) (p := p) (ps := ps) h1 h2)
      have Le := pathIn_le wd leaf hleaf ps.reverse (half n) a
      have Lt := pathIn_texts wd leaf ps.reverse (half n) a
      rw [List.length_reverse, hpl] at Lt
      have d2 : decide ((a : Int) < ((half n : Nat) : Int)) = true := by rw [decide_eq_true_iff]; omega
      go_enter Tryz.func92, Tryz.ntmps92
      go_wp2_with (go_at_call 142; refine (specHalfOf_any n _ (by omega) hn5).mono ?_; rintro e w' ⟨rfl, rfl⟩)
      obtain ⟨r, hrr⟩ : ∃ r, r = w.heap.size := ⟨_, rfl⟩
      rw [← hrr] at B0 B1
      rw [← hrr]
      have hw0 : r + 2 ≤ ((w.alloc (.cells #[.string ⟨#[]⟩, .string ⟨#[]⟩, .slice none 0 0] 133)).alloc (.cells #[.string ⟨#[]⟩, .string ⟨#[]⟩, .slice none 0 0] 133)).heap.size := by simp; omega
      have hrw : w.heap.size ≤ r := by omega
      have HR := Lib.hid hrr; clear hrr
      generalize (w.alloc (.cells #[.string ⟨#[]⟩, .string ⟨#[]⟩, .slice none 0 0] 133)).alloc (.cells #[.string ⟨#[]⟩, .string ⟨#[]⟩, .slice none 0 0] 133) = w0 at *
      refine (ih ps (some ⟨b, off, none⟩) (half n) a w0 hpl (by omega) (by omega) Hs.out hst2 (by omega) (by omega) (by omega) (Hr.out.ext he)).mono ?_
      rintro e w1 ⟨v1, rfl, O1, h1x⟩
      replace B0 := B0.ext h1x; replace B1 := B1.ext h1x; replace he := he.next h1x
      replace O1 := ownT_more O1 hw0
      have hw1 : r + 2 ≤ w1.heap.size := Nat.le_trans hw0 h1x.size
      clear h1x
      generalize pathIn wd leaf (half n) a ps.reverse = X at *
      obtain ⟨A1, c1, rfl, hc1⟩ := O1.form
      obtain ⟨hcc, hff⟩ := B1.rules
      go_upto_region 9 with fail
      clear hcc hff
      replace B1 := B1.put 0 [.string ⟨#[]⟩, .string X.1, .slice A1 X.2.length c1] #[.string ⟨#[]⟩, .string X.1, .slice A1 X.2.length c1] (by simp) (by simp)
      replace B0 := B0.farCells (g' := r + 1) (by omega) [.string ⟨#[]⟩, .string X.1, .slice A1 X.2.length c1] 0
      replace O1 := ownT_put O1 (g := r + 1) (by omega) [.string ⟨#[]⟩, .string X.1, .slice A1 X.2.length c1] 0
      replace he := ext_setCells (g := r + 1) (by omega) [.string ⟨#[]⟩, .string X.1, .slice A1 X.2.length c1] 0 _ he
      rw [← size_setCells (r + 1) [.string ⟨#[]⟩, .string X.1, .slice A1 X.2.length c1] 0 w1] at hw1
      change Code.wp _ _ _ _ (w1.setCells (r + 1) 0 [.string ⟨#[]⟩, .string X.1, .slice A1 X.2.length c1])
      generalize w1.setCells (r + 1) 0 [.string ⟨#[]⟩, .string X.1, .slice A1 X.2.length c1] = w2 at *
      have q0 : w2.cell? ⟨b, off + k, none⟩ = some (.string p) := (he.cell (p := ⟨b, off + k, none⟩) hb).trans Hp.out
      have g1 : w2.cell? ⟨r + 1, 1, none⟩ = some (.string X.1) := B1.cell 1
      have hsz : ¬ 9223372036854775807 < X.1.size + p.size := by omega
      have K1 := Lib.hid B1; have K0 := Lib.hid B0; have KO := Lib.hid O1; have KE := Lib.hid he
      clear B1 B0 O1 he
      go_wp2_with fail
      go_quiet (fail)
      clear q0 g1 hsz
      have D := Ext.drewN (Below.refl _ w2) nq
      have B1 := K1.out.ext D; have B0 := K0.out.ext D; have O1 := KO.out.ext D; have he := KE.out.next D
      replace hw1 : r + 2 ≤ (w2.drewN nq).heap.size := Nat.le_trans hw1 D.size
      clear D K1 K0 KO KE
      generalize w2.drewN nq = w3 at *
      have hts : (X.1 ++ p).size ≤ 64 := by rw [ByteArray.size_append]; omega
      generalize (X.1 ++ p) = Y at *
      have g2 : w3.cell? ⟨r + 1, 2, none⟩ = some (.slice A1 X.2.length c1) := B1.cell 2
      have f1 := B1.frozen
      have KO := Lib.hid (show w3.ownsRow (r + 2) 9 1 (.slice A1 X.2.length c1) X.2.length (X.2.flatMap sone) from O1); clear O1
      have K1 := Lib.hid B1; have K0 := Lib.hid B0; have KE := Lib.hid he
      clear B1 B0 he
      go_wp2_with (at_builtin; refine wpList_append_own _ rfl _ _ 39 rfl (r + 2) 9 i0 (.string ⟨#[]⟩) 1 16 Tryz.underlying39 hi hz0 hz1 hz2 rfl (by decide) _ _ _ rfl (KO.out.alloc _) ⟨w3.heap.size, 0, none⟩ 1 1 [.string Y] rfl rfl ?d1 ?d2 ?d3 ?d4 ?d5 ?_)
      case d1 => exact one_at _ _ _
      case d2 => exact one_cell rfl
      case d3 => unfold maxLen; omega
      case d4 => omega
      case d5 => simp; omega
      intro v' w4 hown' hgrow _
      have hA : r + 2 ≤ (w3.alloc (.cells #[.string Y] 9)).heap.size := by simp; omega
      have Bw := Below.grown (Below.refl (r + 2) (w3.alloc (.cells #[.string Y] 9))) hgrow hA (fun k hk => ((KO.out.alloc (.cells #[.string Y] 9)).lt k hk).1)
      have B1 : Blk w4 (r + 1) 133 #[.string ⟨#[]⟩, .string X.1, .slice A1 X.2.length c1] := (Bw.block (r + 1) (by omega)).trans (K1.out.alloc (.cells #[.string Y] 9))
      have B0 : Blk w4 r 133 #[.string ⟨#[]⟩, .string ⟨#[]⟩, .slice none 0 0] := (Bw.block r (by omega)).trans (K0.out.alloc (.cells #[.string Y] 9))
      have he := Ext.ownGrown (KE.out.new (.cells #[.string Y] 9)) (KO.out.alloc (.cells #[.string Y] 9)) hgrow (by omega)
      have hw4 : r + 2 ≤ w4.heap.size := Nat.le_trans hA hgrow.size
      rw [sone_snoc] at hown'
      obtain ⟨A2, c2, rfl, hc2⟩ := ownsRow_form hown'
      have g2' : w4.cell? ⟨r + 1, 2, none⟩ = some (.slice A1 X.2.length c1) := B1.cell 2
      have f1' := B1.frozen
      clear g2 f1 K1 K0 KE KO Bw hgrow hA
      have KO : Hid (OwnT (r + 2) w4 (.slice A2 (X.2.length + 1) c2) (X.2 ++ [Y])) := Lib.hid (by unfold OwnT; rw [List.length_append, List.length_singleton]; exact hown')
      clear hown'
      have K1 := Lib.hid B1; have K0 := Lib.hid B0; have KE := Lib.hid he
      clear B1 B0 he
      go_upto_region 13 with fail
      have B1 := K1.out.set_ 2 (.slice A2 (X.2.length + 1) c2)
      have B0 := K0.out.far (p := ⟨r + 1, 2, none⟩) (by simp) (.slice A2 (X.2.length + 1) c2)
      have O1 := ownT_set KO.out (g := r + 1) (by omega) 2 (.slice A2 (X.2.length + 1) c2)
      have he := Below.setCell KE.out (p := ⟨r + 1, 2, none⟩) (by show w.heap.size ≤ r + 1; omega) (.slice A2 (X.2.length + 1) c2)
      rw [← size_set w4 ⟨r + 1, 2, none⟩ (.slice A2 (X.2.length + 1) c2)] at hw4
      clear K1 K0 KO KE g2' f1'
      generalize w4.setCell ⟨r + 1, 2, none⟩ (.slice A2 (X.2.length + 1) c2) = w5 at *
      have K1 := Lib.hid B1; have K0 := Lib.hid B0; have KO := Lib.hid O1; have KE := Lib.hid he
      clear B1 B0 O1 he
      go_wp2_with fail
      refine (specDigest_any wd 1 Y _ (by unfold maxLen; omega)).mono ?_
      rintro e w6 ⟨rfl, h6⟩
      rw [node_sz]
      have B1 := K1.out.ext h6; have B0 := K0.out.ext h6; have O1 := KO.out.ext h6; have he := Ext.next KE.out h6
      have hw6 := Nat.le_trans hw4 h6.size
      clear K1 K0 KO KE h6 hw4
      have g1 : w6.cell? ⟨r + 1, 1, none⟩ = some (.string X.1) := B1.cell 1
      have f1 := B1.frozen
      generalize nodeT wd Y = Z at *
      have K1 := Lib.hid B1; have K0 := Lib.hid B0; have KO := Lib.hid O1; have KE := Lib.hid he
      clear B1 B0 O1 he
      go_upto_region 14 with fail
      have B1 := K1.out.set_ 1 (.string Z)
      have B0 := K0.out.far (p := ⟨r + 1, 1, none⟩) (by simp) (.string Z)
      have O1 := ownT_set KO.out (g := r + 1) (by omega) 1 (.string Z)
      have he := Below.setCell KE.out (p := ⟨r + 1, 1, none⟩) (by show w.heap.size ≤ r + 1; omega) (.string Z)
      clear K1 K0 KO KE g1 f1
      generalize w6.setCell ⟨r + 1, 1, none⟩ (.string Z) = w7 at *
      have B1' : Blk w7 (r + 1) 133 #[.string ⟨#[]⟩, .string Z, .slice A2 (X.2.length + 1) c2] := B1
      obtain ⟨hc, hf⟩ := B1'.rules
      obtain ⟨hc0, hf0⟩ := B0.rules
      have B9 := Lib.hid (B0.put 0 [.string ⟨#[]⟩, .string Z, .slice A2 (X.2.length + 1) c2] #[.string ⟨#[]⟩, .string Z, .slice A2 (X.2.length + 1) c2] (by simp) (by simp))
      have O9 := Lib.hid (ownT_more (ownT_put O1 (g := r) (by omega) [.string ⟨#[]⟩, .string Z, .slice A2 (X.2.length + 1) c2] 0) (K' := w.heap.size) (by omega))
      have E9 := Lib.hid (ext_setCells (g := r) hrw [.string ⟨#[]⟩, .string Z, .slice A2 (X.2.length + 1) c2] 0 _ he)
      clear B1 B1' B0 O1 he
      go_wp2_with fail
      refine ret_row rfl rfl B9.out Tryz.underlying133 rfl (by kernel_rfl) rfl ?_
      rw [E.out]
      exact ⟨_, rfl, O9.out, E9.out⟩
    · have hst2 : stepsN (n - half n) (a - half n) = k := by rw [stepsN_hi h1 h2] at hst; omega
      have E := Lib.hid (pathIn_hi (w := wd) (leaf := leaf) (p := p) (ps := ps) h1 h2)
      have Le := pathIn_le wd leaf hleaf ps.reverse (n - half n) (a - half n)
      have Lt := pathIn_texts wd leaf ps.reverse (n - half n) (a - half n)
      rw [List.length_reverse, hpl] at Lt
      have d2 : decide ((a : Int) < ((half n : Nat) : Int)) = false := by rw [decide_eq_false_iff_not]; omega
      have e1 : (n : Int) - ((half n : Nat) : Int) = ((n - half n : Nat) : Int) := by omega
      have e2 : (a : Int) - ((half n : Nat) : Int) = ((a - half n : Nat) : Int) := by omega
      go_enter Tryz.func92, Tryz.ntmps92
      go_wp2_with (go_at_call 142; refine (specHalfOf_any n _ (by omega) hn5).mono ?_; rintro e w' ⟨rfl, rfl⟩)
      obtain ⟨r, hrr⟩ : ∃ r, r = w.heap.size := ⟨_, rfl⟩
      rw [← hrr] at B0 B1
      rw [← hrr]
      have hw0 : r + 2 ≤ ((w.alloc (.cells #[.string ⟨#[]⟩, .string ⟨#[]⟩, .slice none 0 0] 133)).alloc (.cells #[.string ⟨#[]⟩, .string ⟨#[]⟩, .slice none 0 0] 133)).heap.size := by simp; omega
      have hrw : w.heap.size ≤ r := by omega
      have HR := Lib.hid hrr; clear hrr
      generalize (w.alloc (.cells #[.string ⟨#[]⟩, .string ⟨#[]⟩, .slice none 0 0] 133)).alloc (.cells #[.string ⟨#[]⟩, .string ⟨#[]⟩, .slice none 0 0] 133) = w0 at *
      refine (ih ps (some ⟨b, off, none⟩) (n - half n) (a - half n) w0 hpl (by omega) (by omega) Hs.out hst2 (by omega) (by omega) (by omega) (Hr.out.ext he)).mono ?_
      rintro e w1 ⟨v1, rfl, O1, h1x⟩
      replace B0 := B0.ext h1x; replace B1 := B1.ext h1x; replace he := he.next h1x
      replace O1 := ownT_more O1 hw0
      have hw1 : r + 2 ≤ w1.heap.size := Nat.le_trans hw0 h1x.size
      clear h1x
      generalize pathIn wd leaf (n - half n) (a - half n) ps.reverse = X at *
      obtain ⟨A1, c1, rfl, hc1⟩ := O1.form
      obtain ⟨hcc, hff⟩ := B1.rules
      go_upto_region 11 with fail
      clear hcc hff
      replace B1 := B1.put 0 [.string ⟨#[]⟩, .string X.1, .slice A1 X.2.length c1] #[.string ⟨#[]⟩, .string X.1, .slice A1 X.2.length c1] (by simp) (by simp)
      replace B0 := B0.farCells (g' := r + 1) (by omega) [.string ⟨#[]⟩, .string X.1, .slice A1 X.2.length c1] 0
      replace O1 := ownT_put O1 (g := r + 1) (by omega) [.string ⟨#[]⟩, .string X.1, .slice A1 X.2.length c1] 0
      replace he := ext_setCells (g := r + 1) (by omega) [.string ⟨#[]⟩, .string X.1, .slice A1 X.2.length c1] 0 _ he
      rw [← size_setCells (r + 1) [.string ⟨#[]⟩, .string X.1, .slice A1 X.2.length c1] 0 w1] at hw1
      change Code.wp _ _ _ _ (w1.setCells (r + 1) 0 [.string ⟨#[]⟩, .string X.1, .slice A1 X.2.length c1])
      generalize w1.setCells (r + 1) 0 [.string ⟨#[]⟩, .string X.1, .slice A1 X.2.length c1] = w2 at *
      have q0 : w2.cell? ⟨b, off + k, none⟩ = some (.string p) := (he.cell (p := ⟨b, off + k, none⟩) hb).trans Hp.out
      have g1 : w2.cell? ⟨r + 1, 1, none⟩ = some (.string X.1) := B1.cell 1
      have hsz : ¬ 9223372036854775807 < p.size + X.1.size := by omega
      have K1 := Lib.hid B1; have K0 := Lib.hid B0; have KO := Lib.hid O1; have KE := Lib.hid he
      clear B1 B0 O1 he
      go_wp2_with fail
      go_quiet (fail)
      clear q0 g1 hsz
      have D := Ext.drewN (Below.refl _ w2) nq
      have B1 := K1.out.ext D; have B0 := K0.out.ext D; have O1 := KO.out.ext D; have he := KE.out.next D
      replace hw1 : r + 2 ≤ (w2.drewN nq).heap.size := Nat.le_trans hw1 D.size
      clear D K1 K0 KO KE
      generalize w2.drewN nq = w3 at *
      have hts : (p ++ X.1).size ≤ 64 := by rw [ByteArray.size_append]; omega
      generalize (p ++ X.1) = Y at *
      have g2 : w3.cell? ⟨r + 1, 2, none⟩ = some (.slice A1 X.2.length c1) := B1.cell 2
      have f1 := B1.frozen
      have KO := Lib.hid (show w3.ownsRow (r + 2) 9 1 (.slice A1 X.2.length c1) X.2.length (X.2.flatMap sone) from O1); clear O1
      have K1 := Lib.hid B1; have K0 := Lib.hid B0; have KE := Lib.hid he
      clear B1 B0 he
      go_wp2_with (at_builtin; refine wpList_append_own _ rfl _ _ 39 rfl (r + 2) 9 i0 (.string ⟨#[]⟩) 1 16 Tryz.underlying39 hi hz0 hz1 hz2 rfl (by decide) _ _ _ rfl (KO.out.alloc _) ⟨w3.heap.size, 0, none⟩ 1 1 [.string Y] rfl rfl ?d1 ?d2 ?d3 ?d4 ?d5 ?_)
      case d1 => exact one_at _ _ _
      case d2 => exact one_cell rfl
      case d3 => unfold maxLen; omega
      case d4 => omega
      case d5 => simp; omega
      intro v' w4 hown' hgrow _
      have hA : r + 2 ≤ (w3.alloc (.cells #[.string Y] 9)).heap.size := by simp; omega
      have Bw := Below.grown (Below.refl (r + 2) (w3.alloc (.cells #[.string Y] 9))) hgrow hA (fun k hk => ((KO.out.alloc (.cells #[.string Y] 9)).lt k hk).1)
      have B1 : Blk w4 (r + 1) 133 #[.string ⟨#[]⟩, .string X.1, .slice A1 X.2.length c1] := (Bw.block (r + 1) (by omega)).trans (K1.out.alloc (.cells #[.string Y] 9))
      have B0 : Blk w4 r 133 #[.string ⟨#[]⟩, .string ⟨#[]⟩, .slice none 0 0] := (Bw.block r (by omega)).trans (K0.out.alloc (.cells #[.string Y] 9))
      have he := Ext.ownGrown (KE.out.new (.cells #[.string Y] 9)) (KO.out.alloc (.cells #[.string Y] 9)) hgrow (by omega)
      have hw4 : r + 2 ≤ w4.heap.size := Nat.le_trans hA hgrow.size
      rw [sone_snoc] at hown'
      obtain ⟨A2, c2, rfl, hc2⟩ := ownsRow_form hown'
      have g2' : w4.cell? ⟨r + 1, 2, none⟩ = some (.slice A1 X.2.length c1) := B1.cell 2
      have f1' := B1.frozen
      clear g2 f1 K1 K0 KE KO Bw hgrow hA
      have KO : Hid (OwnT (r + 2) w4 (.slice A2 (X.2.length + 1) c2) (X.2 ++ [Y])) := Lib.hid (by unfold OwnT; rw [List.length_append, List.length_singleton]; exact hown')
      clear hown'
      have K1 := Lib.hid B1; have K0 := Lib.hid B0; have KE := Lib.hid he
      clear B1 B0 he
      go_upto_region 13 with fail
      have B1 := K1.out.set_ 2 (.slice A2 (X.2.length + 1) c2)
      have B0 := K0.out.far (p := ⟨r + 1, 2, none⟩) (by simp) (.slice A2 (X.2.length + 1) c2)
      have O1 := ownT_set KO.out (g := r + 1) (by omega) 2 (.slice A2 (X.2.length + 1) c2)
      have he := Below.setCell KE.out (p := ⟨r + 1, 2, none⟩) (by show w.heap.size ≤ r + 1; omega) (.slice A2 (X.2.length + 1) c2)
      rw [← size_set w4 ⟨r + 1, 2, none⟩ (.slice A2 (X.2.length + 1) c2)] at hw4
      clear K1 K0 KO KE g2' f1'
      generalize w4.setCell ⟨r + 1, 2, none⟩ (.slice A2 (X.2.length + 1) c2) = w5 at *
      have K1 := Lib.hid B1; have K0 := Lib.hid B0; have KO := Lib.hid O1; have KE := Lib.hid he
      clear B1 B0 O1 he
      go_wp2_with fail
      refine (specDigest_any wd 1 Y _ (by unfold maxLen; omega)).mono ?_
      rintro e w6 ⟨rfl, h6⟩
      rw [node_sz]
      have B1 := K1.out.ext h6; have B0 := K0.out.ext h6; have O1 := KO.out.ext h6; have he := Ext.next KE.out h6
      have hw6 := Nat.le_trans hw4 h6.size
      clear K1 K0 KO KE h6 hw4
      have g1 : w6.cell? ⟨r + 1, 1, none⟩ = some (.string X.1) := B1.cell 1
      have f1 := B1.frozen
      generalize nodeT wd Y = Z at *
      have K1 := Lib.hid B1; have K0 := Lib.hid B0; have KO := Lib.hid O1; have KE := Lib.hid he
      clear B1 B0 O1 he
      go_upto_region 14 with fail
      have B1 := K1.out.set_ 1 (.string Z)
      have B0 := K0.out.far (p := ⟨r + 1, 1, none⟩) (by simp) (.string Z)
      have O1 := ownT_set KO.out (g := r + 1) (by omega) 1 (.string Z)
      have he := Below.setCell KE.out (p := ⟨r + 1, 1, none⟩) (by show w.heap.size ≤ r + 1; omega) (.string Z)
      clear K1 K0 KO KE g1 f1
      generalize w6.setCell ⟨r + 1, 1, none⟩ (.string Z) = w7 at *
      have B1' : Blk w7 (r + 1) 133 #[.string ⟨#[]⟩, .string Z, .slice A2 (X.2.length + 1) c2] := B1
      obtain ⟨hc, hf⟩ := B1'.rules
      obtain ⟨hc0, hf0⟩ := B0.rules
      have B9 := Lib.hid (B0.put 0 [.string ⟨#[]⟩, .string Z, .slice A2 (X.2.length + 1) c2] #[.string ⟨#[]⟩, .string Z, .slice A2 (X.2.length + 1) c2] (by simp) (by simp))
      have O9 := Lib.hid (ownT_more (ownT_put O1 (g := r) (by omega) [.string ⟨#[]⟩, .string Z, .slice A2 (X.2.length + 1) c2] 0) (K' := w.heap.size) (by omega))
      have E9 := Lib.hid (ext_setCells (g := r) hrw [.string ⟨#[]⟩, .string Z, .slice A2 (X.2.length + 1) c2] 0 _ he)
      clear B1 B1' B0 O1 he
      go_wp2_with fail
      refine ret_row rfl rfl B9.out Tryz.underlying133 rfl (by kernel_rfl) rfl ?_
      rw [E.out]
      exact ⟨_, rfl, O9.out, E9.out⟩
end Go.Proofs.YtichegndafnjeaaGreat

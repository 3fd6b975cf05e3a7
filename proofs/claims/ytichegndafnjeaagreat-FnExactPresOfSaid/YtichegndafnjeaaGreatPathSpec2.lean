/-
  The reference's ways between trees: walks. Written by program (gen_pathspec2.py). No condition.
-/
import Derived.Test.YtichegndafnjeaaGreatPathSpec
import Derived.Test.YtichegndafnjeaaGreatPathI2
namespace Go.Proofs.YtichegndafnjeaaGreat
open Go.RowKit
set_option linter.unusedVariables false

theorem new_two (w : World) (a b : ByteArray) (t : TypeId) : ∀ j v, [Value.string a, Value.string b][j]? = some v → (w.alloc (.cells #[.string a, .string b] t)).cell? ((⟨w.heap.size, 0, none⟩ : Addr).add j) = some v := by
  intro j v hj
  rw [add_mk, (Blk.new w t #[.string a, .string b]).cell]; simpa using hj
theorem sone_two (ts : List ByteArray) (x y : ByteArray) : ts.flatMap sone ++ [.string x, .string y] = (ts ++ [x, y]).flatMap sone := by simp [sone]
theorem two_cells (a b : ByteArray) : ∀ v ∈ [Value.string a, Value.string b], v.oneCell' = true := by
  intro v hv
  simp at hv
  rcases hv with rfl | rfl <;> rfl
theorem own_apart {w : World} {K e size n g t : Nat} {v : Value} {xs : List Value} {cs : Array Value} (h : w.ownsRow K e size v n xs) (hB : Blk w g t cs) (hne : e ≠ t) : v.ownBlock ≠ some g := by
  intro hg
  rcases h.2 with ⟨h1, _⟩ | ⟨b, cap, cur, hv, hb, hh, hrest⟩
  · rw [h1] at hg; cases hg
  · rw [hv] at hg
    obtain rfl : b = g := by simpa [Value.ownBlock] using hg
    have : w.heap[b]? = some (.cells cs t (0, 0)) := hB
    rw [hh] at this
    exact hne (by simp at this; exact this.2)
theorem ownsRow_far2 {w w' : World} {K g e size n : Nat} {v : Value} {xs : List Value} (h : w.ownsRow K e size v n xs) (k : ExtBut g w w') (hg : v.ownBlock ≠ some g) : w'.ownsRow K e size v n xs := by
  refine ⟨h.1, ?_⟩
  rcases h.2 with h1 | ⟨b, cap, cur, hv, hb, hh, hrest⟩
  · exact .inl h1
  · have hbg : b ≠ g := fun e => hg (by rw [hv, e]; rfl)
    exact .inr ⟨b, cap, cur, hv, hb, (k.block b (Blk.lt (t := e) (cs := cur) hh) (by simp; omega)).trans hh, hrest⟩
theorem ownT_set2 {K g : Nat} {w : World} {v : Value} {ts : List ByteArray} {cs : Array Value} (h : OwnT K w v ts) (hB : Blk w g 133 cs) (o : Nat) (u : Value) : OwnT K (w.setCell ⟨g, o, none⟩ u) v ts := ownsRow_far2 h ((ExtBut.refl g w).set_ o u) (own_apart h hB (by decide))
set_option maxHeartbeats 4000000 in
set_option maxRecDepth 100000 in
theorem l06Between_any (wd : Int) (root : ByteArray) (hroot : root.size ≤ 32) (c : Nat) : ∀ (k : Nat) (l : List ByteArray) (A : Option Addr) (a n : Nat) (wh : Bool) (w : World), l.length = k → k ≤ c → k ≤ 1048576 → (∀ s ∈ l, s.size ≤ 32) → betwN a n wh = k → 1 ≤ a → a ≤ n → n ≤ 512 → ReadsL w w.heap.size sone 1 A l →
    Calls Tryz.prog 86 #[.int .i64 wd, .int .i64 (a : Int), .string root, .int .i64 (n : Int), .slice A k c, .bool wh] w fun e w' => ∃ v, e = .returned (.agg #[.string (pathB wd root a n wh l.reverse).small, .string (pathB wd root a n wh l.reverse).big, v]) ∧ OwnT w.heap.size w' v (pathB wd root a n wh l.reverse).texts ∧ Ext w w' := by
  intro k
  induction k with
  | zero =>
    intro l A a n wh w hl hc hm hs hst ha0 han hn5 hr
    obtain rfl := List.eq_nil_of_length_eq_zero hl
    have h1 : n = a := by
      rcases Nat.lt_or_ge a n with h | h
      · by_cases h2 : a ≤ half n
        · rw [betwN_lo ha0 h h2] at hst; omega
        · rw [betwN_hi ha0 h h2] at hst; omega
      · omega
    subst h1
    obtain rfl : wh = true := by rw [betwN_done (Nat.le_refl _)] at hst; cases wh <;> simp_all
    have B0 := Blk.new w 133 #[.string ⟨#[]⟩, .string ⟨#[]⟩, .slice none 0 0]
    have B9 := Lib.hid (B0.put 0 [.string root, .string root, .slice none 0 0] #[.string root, .string root, .slice none 0 0] (by simp) (by simp))
    have E9 := Lib.hid (ext_setCells (g := w.heap.size) (Nat.le_refl _) [.string root, .string root, .slice none 0 0] 0 _ (Ext.new (Below.refl w.heap.size w) (.cells #[.string ⟨#[]⟩, .string ⟨#[]⟩, .slice none 0 0] 133)))
    obtain ⟨hc0, hf0⟩ := B0.rules
    clear B0
    go_enter Tryz.func86, Tryz.ntmps86
    go_wp2_with fail
    first
    | refine ret_row rfl rfl B9.out Tryz.underlying133 rfl (by kernel_rfl) rfl ?_
      exact ⟨.slice none 0 0, by simp [pathB], by rw [List.reverse_nil, pathB]; exact World.ownsRow_nil _ _ 9 1, E9.out⟩
    | refine ret_row rfl rfl (Blk.new w 133 #[.string root, .string root, .slice none 0 0]) Tryz.underlying133 rfl (by kernel_rfl) rfl ?_
      exact ⟨.slice none 0 0, by simp [pathB], by rw [List.reverse_nil, pathB]; exact World.ownsRow_nil _ _ 9 1, Ext.new (Below.refl w.heap.size w) _⟩
  | succ k ih =>
    intro l A a n wh w hl hc hm hs hst ha0 han hn5 hr
    obtain ⟨ps, p, rfl, hpl⟩ := snoc_of hl
    obtain ⟨hr0, b, off, rfl, hb, hp⟩ := hr.init
    rw [hpl] at hp
    obtain ⟨i0, hi, hz0, hz1, hz2⟩ := info_parts info_text
    have sp : p.size ≤ 32 := hs p (by simp)
    have sps : ∀ s ∈ ps, s.size ≤ 32 := fun s h => hs s (by simp [h])
    have d3 : (((k + 1 : Nat) : Int) == 0) = false := by simp; omega
    have hk1 : ((k + 1 : Nat) : Int) - 1 = (k : Int) := by omega
    have Hr := Lib.hid hr0; clear hr0 hr
    have Hs := Lib.hid sps; clear sps hs
    have Hp := Lib.hid hp; clear hp
    clear hl
    have B0 := Blk.new w 133 #[.string ⟨#[]⟩, .string ⟨#[]⟩, .slice none 0 0]
    have he := Ext.new (Below.refl w.heap.size w) (.cells #[.string ⟨#[]⟩, .string ⟨#[]⟩, .slice none 0 0] 133)
    by_cases h1 : a < n
    case neg =>
      obtain rfl : n = a := by omega
      rw [betwN_done (Nat.le_refl _)] at hst
      obtain ⟨rfl, rfl⟩ : wh = false ∧ k = 0 := by cases wh <;> simp_all
      obtain rfl := List.eq_nil_of_length_eq_zero hpl
      have E := Lib.hid (pathB_end (w := wd) (root := root) (p := p) (Nat.le_refl n))
      have q0 : (w.alloc (.cells #[.string ⟨#[]⟩, .string ⟨#[]⟩, .slice none 0 0] 133)).cell? ⟨b, off + 0, none⟩ = some (.string p) := (he.cell (p := ⟨b, off + 0, none⟩) hb).trans Hp.out
      have q1 : (w.alloc (.cells #[.string ⟨#[]⟩, .string ⟨#[]⟩, .slice none 0 0] 133)).cell? ⟨b, off, none⟩ = some (.string p) := q0
      obtain ⟨r, hrr⟩ : ∃ r, r = w.heap.size := ⟨_, rfl⟩
      rw [← hrr] at B0
      have hrw : w.heap.size ≤ r := by omega
      have B9 := Lib.hid (B0.put 0 [.string p, .string p, .slice none 0 0] #[.string p, .string p, .slice none 0 0] (by simp) (by simp))
      have E9 := Lib.hid (ext_setCells (g := r) hrw [.string p, .string p, .slice none 0 0] 0 _ he)
      obtain ⟨hc0, hf0⟩ := B0.rules
      clear hst B0 he
      go_enter Tryz.func86, Tryz.ntmps86
      go_wp2_with fail
      rw [← hrr]
      clear hrr
      generalize w.alloc (.cells #[.string ⟨#[]⟩, .string ⟨#[]⟩, .slice none 0 0] 133) = w0 at *
      refine wp_region_still_tail 7 (by kernel_rfl) (by kernel_rfl) ?_
      simp only [List.take_succ_cons, List.take_zero, List.drop_succ_cons, List.drop_zero]
      repeat still_step
      refine wpStill_nil ?_
      have B10 := B9.out.drew
      have E10 := E9.out.drew
      go_wp2_with fail
      refine ret_row rfl rfl B10 Tryz.underlying133 rfl (by kernel_rfl) rfl ?_
      have E1 : pathB wd root n n false [p] = ⟨p, p, []⟩ := E.out
      have E2 : pathB wd root n n false [p].reverse = ⟨p, p, []⟩ := E.out
      first | rw [E.out] | rw [E1] | rw [E2]
      exact ⟨.slice none 0 0, rfl, World.ownsRow_nil _ _ 9 1, E10⟩
    have l1 := half_lt (n := n) (by omega)
    have l2 := half_pos n
    have d1 : decide ((n : Int) ≤ (a : Int)) = false := by rw [decide_eq_false_iff_not]; omega
    have d4 : decide (n ≤ a) = false := by rw [decide_eq_false_iff_not]; omega
    by_cases h2 : a ≤ half n
    · have hst2 : betwN a (half n) wh = k := by rw [betwN_lo ha0 h1 h2] at hst; omega
      have E := Lib.hid (pathB_lo (w := wd) (root := root) (p := p) (b := wh) (ps := ps) h1 h2)
      have Le := pathB_le wd root hroot ps.reverse a (half n) wh (fun q hq => Hs.out q (List.mem_reverse.1 hq))
      rw [List.length_reverse, hpl] at Le
      obtain ⟨Le1, Le2, Le3⟩ := Le
      have d2 : decide ((a : Int) ≤ ((half n : Nat) : Int)) = true := by rw [decide_eq_true_iff]; omega
      go_enter Tryz.func86, Tryz.ntmps86
      go_wp2_with (go_at_call 142; refine (specHalfOf_any n _ (by omega) hn5).mono ?_; rintro e w' ⟨rfl, rfl⟩)
      obtain ⟨r, hrr⟩ : ∃ r, r = w.heap.size := ⟨_, rfl⟩
      rw [← hrr] at B0
      rw [← hrr]
      have hrw : w.heap.size ≤ r := by omega
      have hw0 : r + 1 ≤ (w.alloc (.cells #[.string ⟨#[]⟩, .string ⟨#[]⟩, .slice none 0 0] 133)).heap.size := by simp; omega
      clear hrr
      generalize w.alloc (.cells #[.string ⟨#[]⟩, .string ⟨#[]⟩, .slice none 0 0] 133) = w0 at *
      refine (ih ps (some ⟨b, off, none⟩) a (half n) wh w0 hpl (by omega) (by omega) Hs.out hst2 ha0 h2 (by omega) (Hr.out.ext he)).mono ?_
      rintro e w1 ⟨v1, rfl, O1, h1x⟩
      replace B0 := B0.ext h1x; replace he := he.next h1x
      replace O1 := ownT_more O1 hw0
      have hw1 : r + 1 ≤ w1.heap.size := Nat.le_trans hw0 h1x.size
      clear h1x
      generalize pathB wd root a (half n) wh ps.reverse = X at *
      obtain ⟨A1, c1, rfl, hc1⟩ := O1.form
      go_upto_region 9 with fail
      have B1 := Blk.new w1 133 #[.string X.small, .string X.big, .slice A1 X.texts.length c1]
      replace B0 := B0.alloc (.cells #[.string X.small, .string X.big, .slice A1 X.texts.length c1] 133)
      have O2 := O1.ext (Ext.new (Below.refl _ _) (.cells #[.string X.small, .string X.big, .slice A1 X.texts.length c1] 133))
      replace he := he.new (.cells #[.string X.small, .string X.big, .slice A1 X.texts.length c1] 133)
      obtain ⟨g, hg⟩ : ∃ g, g = w1.heap.size := ⟨_, rfl⟩
      have hw2 : g + 1 ≤ (w1.alloc (.cells #[.string X.small, .string X.big, .slice A1 X.texts.length c1] 133)).heap.size := by simp; omega
      rw [← hg] at B1 hw1
      rw [← hg]
      clear hg O1
      generalize w1.alloc (.cells #[.string X.small, .string X.big, .slice A1 X.texts.length c1] 133) = w2 at *
      have q0 : w2.cell? ⟨b, off + k, none⟩ = some (.string p) := (he.cell (p := ⟨b, off + k, none⟩) hb).trans Hp.out
      have g1 : w2.cell? ⟨g, 1, none⟩ = some (.string X.big) := B1.cell 1
      have hsz : ¬ 9223372036854775807 < X.big.size + p.size := by omega
      have K1 := Lib.hid B1; have K0 := Lib.hid B0; have KO := Lib.hid O2; have KE := Lib.hid he
      clear B1 B0 O2 he
      go_wp2_with fail
      go_quiet (fail)
      clear q0 g1 hsz
      have D := Ext.drewN (Below.refl _ w2) nq
      have B1 := K1.out.ext D; have B0 := K0.out.ext D; have O2 := KO.out.ext D; have he := KE.out.next D
      replace hw2 : g + 1 ≤ (w2.drewN nq).heap.size := Nat.le_trans hw2 D.size
      clear D K1 K0 KO KE
      generalize w2.drewN nq = w3 at *
      have ht_Y : (X.big ++ p).size ≤ 64 := by rw [ByteArray.size_append]; omega
      generalize X.big ++ p = Y at *
      have g2 : w3.cell? ⟨g, 2, none⟩ = some (.slice A1 X.texts.length c1) := B1.cell 2
      have f1 := B1.frozen
      have KO := Lib.hid O2; clear O2
      have K1 := Lib.hid B1; have K0 := Lib.hid B0; have KE := Lib.hid he
      clear B1 B0 he
      go_wp2_with (at_builtin; refine wpList_append_own _ rfl _ _ 39 rfl (r + 1) 9 i0 (.string ⟨#[]⟩) 1 16 Tryz.underlying39 hi hz0 hz1 hz2 rfl (by decide) _ _ _ rfl (World.ownsRow.alloc (show w3.ownsRow (r + 1) 9 1 (.slice A1 X.texts.length c1) X.texts.length (X.texts.flatMap sone) from KO.out) _) ⟨w3.heap.size, 0, none⟩ 1 1 [.string Y] rfl rfl ?d1 ?d2 ?d3 ?d4 ?d5 ?_)
      case d1 => exact one_at _ _ _
      case d2 => exact one_cell rfl
      case d3 => unfold maxLen; omega
      case d4 => omega
      case d5 => simp; omega
      intro v' w4 hown' hgrow _
      have KR := World.ownsRow.alloc (show w3.ownsRow (r + 1) 9 1 (.slice A1 X.texts.length c1) X.texts.length (X.texts.flatMap sone) from KO.out) (.cells #[.string Y] 9)
      have hA : g + 1 ≤ (w3.alloc (.cells #[.string Y] 9)).heap.size := by simp; omega
      have hgA := own_apart KR (K1.out.alloc (.cells #[.string Y] 9)) (by decide)
      have Bg := fun (q : Nat) (hq : q < (w3.alloc (.cells #[.string Y] 9)).heap.size) (hne : (Value.slice A1 X.texts.length c1).ownBlock ≠ some q) => hgrow.block q hq hne.symm
      have B1 : Blk w4 g 133 #[.string X.small, .string X.big, .slice A1 X.texts.length c1] := (Bg g (by omega) hgA).trans (K1.out.alloc (.cells #[.string Y] 9))
      have B0 : Blk w4 r 133 #[.string ⟨#[]⟩, .string ⟨#[]⟩, .slice none 0 0] := (Bg r (by omega) (fun x => by have := (KR.lt r x).1; omega)).trans (K0.out.alloc (.cells #[.string Y] 9))
      have he := Ext.ownGrown (KE.out.new (.cells #[.string Y] 9)) KR hgrow (by omega)
      have hw4 : g + 1 ≤ w4.heap.size := Nat.le_trans hA hgrow.size
      rw [sone_snoc] at hown'
      obtain ⟨A2, c2, rfl, hc2⟩ := ownsRow_form hown'
      clear g2 f1 K1 K0 KE KO Bg hgrow hA KR hgA
      have KO : Hid (OwnT (r + 1) w4 (.slice A2 (X.texts.length + 1) c2) (X.texts ++ [Y])) := Lib.hid (by unfold OwnT; rw [List.length_append]; exact hown')
      clear hown'
      have g2' : w4.cell? ⟨g, 2, none⟩ = some (.slice A1 X.texts.length c1) := B1.cell 2
      have f1' := B1.frozen
      have K1 := Lib.hid B1; have K0 := Lib.hid B0; have KE := Lib.hid he
      clear B1 B0 he
      go_upto_region 11 with fail
      have B1 := K1.out.set_ 2 (.slice A2 (X.texts.length + 1) c2)
      have B0 := K0.out.far (p := ⟨g, 2, none⟩) (by simp; omega) (.slice A2 (X.texts.length + 1) c2)
      have O2 := ownT_set2 KO.out K1.out 2 (.slice A2 (X.texts.length + 1) c2)
      have he := Below.setCell KE.out (p := ⟨g, 2, none⟩) (by show w.heap.size ≤ g; omega) (.slice A2 (X.texts.length + 1) c2)
      rw [← size_set w4 ⟨g, 2, none⟩ (.slice A2 (X.texts.length + 1) c2)] at hw4
      clear K1 K0 KO KE
      generalize w4.setCell ⟨g, 2, none⟩ (.slice A2 (X.texts.length + 1) c2) = w5 at *
      have K1 := Lib.hid B1; have K0 := Lib.hid B0; have KO := Lib.hid O2; have KE := Lib.hid he
      clear B1 B0 O2 he
      go_wp2_with fail
      refine (specDigest_any wd 1 Y _ (by unfold maxLen; omega)).mono ?_
      rintro e w6 ⟨rfl, h6⟩
      rw [node_sz]
      have B1 := K1.out.ext h6; have B0 := K0.out.ext h6; have O2 := KO.out.ext h6; have he := Ext.next KE.out h6
      replace hw4 := Nat.le_trans hw4 h6.size
      clear K1 K0 KO KE h6
      have g1 : w6.cell? ⟨g, 1, none⟩ = some (.string X.big) := B1.cell 1
      have f1 := B1.frozen
      generalize nodeT wd Y = Z at *
      have K1 := Lib.hid B1; have K0 := Lib.hid B0; have KO := Lib.hid O2; have KE := Lib.hid he
      clear B1 B0 O2 he
      go_upto_region 12 with fail
      have B1 := K1.out.set_ 1 (.string Z)
      have B0 := K0.out.far (p := ⟨g, 1, none⟩) (by simp; omega) (.string Z)
      have O2 := ownT_set2 KO.out K1.out 1 (.string Z)
      have he := Below.setCell KE.out (p := ⟨g, 1, none⟩) (by show w.heap.size ≤ g; omega) (.string Z)
      rw [← size_set w6 ⟨g, 1, none⟩ (.string Z)] at hw4
      clear K1 K0 KO KE
      generalize w6.setCell ⟨g, 1, none⟩ (.string Z) = w7 at *
      have B1' : Blk w7 g 133 #[.string X.small, .string Z, .slice A2 (X.texts.length + 1) c2] := B1
      obtain ⟨hc, hf⟩ := B1'.rules
      obtain ⟨hc0, hf0⟩ := B0.rules
      have B9 := Lib.hid (B0.put 0 [.string X.small, .string Z, .slice A2 (X.texts.length + 1) c2] #[.string X.small, .string Z, .slice A2 (X.texts.length + 1) c2] (by simp) (by simp))
      have O9 := Lib.hid (ownT_more (ownT_put O2 (g := r) (by omega) [.string X.small, .string Z, .slice A2 (X.texts.length + 1) c2] 0) (K' := w.heap.size) (by omega))
      have E9 := Lib.hid (ext_setCells (g := r) hrw [.string X.small, .string Z, .slice A2 (X.texts.length + 1) c2] 0 _ he)
      clear B1 B1' B0 O2 he g1 f1
      go_wp2_with fail
      refine ret_row rfl rfl B9.out Tryz.underlying133 rfl (by kernel_rfl) rfl ?_
      rw [E.out]
      exact ⟨_, rfl, O9.out, E9.out⟩
    · have hst2 : betwN (a - half n) (n - half n) false = k := by rw [betwN_hi ha0 h1 h2] at hst; omega
      have E := Lib.hid (pathB_hi (w := wd) (root := root) (p := p) (b := wh) (ps := ps) h1 h2)
      have Le := pathB_le wd root hroot ps.reverse (a - half n) (n - half n) false (fun q hq => Hs.out q (List.mem_reverse.1 hq))
      rw [List.length_reverse, hpl] at Le
      obtain ⟨Le1, Le2, Le3⟩ := Le
      have d2 : decide ((a : Int) ≤ ((half n : Nat) : Int)) = false := by rw [decide_eq_false_iff_not]; omega
      have e1 : (n : Int) - ((half n : Nat) : Int) = ((n - half n : Nat) : Int) := by omega
      have e2 : (a : Int) - ((half n : Nat) : Int) = ((a - half n : Nat) : Int) := by omega
      go_enter Tryz.func86, Tryz.ntmps86
      go_wp2_with (go_at_call 142; refine (specHalfOf_any n _ (by omega) hn5).mono ?_; rintro e w' ⟨rfl, rfl⟩)
      obtain ⟨r, hrr⟩ : ∃ r, r = w.heap.size := ⟨_, rfl⟩
      rw [← hrr] at B0
      rw [← hrr]
      have hrw : w.heap.size ≤ r := by omega
      have hw0 : r + 1 ≤ (w.alloc (.cells #[.string ⟨#[]⟩, .string ⟨#[]⟩, .slice none 0 0] 133)).heap.size := by simp; omega
      clear hrr
      generalize w.alloc (.cells #[.string ⟨#[]⟩, .string ⟨#[]⟩, .slice none 0 0] 133) = w0 at *
      refine (ih ps (some ⟨b, off, none⟩) (a - half n) (n - half n) false w0 hpl (by omega) (by omega) Hs.out hst2 (by omega) (by omega) (by omega) (Hr.out.ext he)).mono ?_
      rintro e w1 ⟨v1, rfl, O1, h1x⟩
      replace B0 := B0.ext h1x; replace he := he.next h1x
      replace O1 := ownT_more O1 hw0
      have hw1 : r + 1 ≤ w1.heap.size := Nat.le_trans hw0 h1x.size
      clear h1x
      generalize pathB wd root (a - half n) (n - half n) false ps.reverse = X at *
      obtain ⟨A1, c1, rfl, hc1⟩ := O1.form
      go_upto_region 14 with fail
      have B1 := Blk.new w1 133 #[.string X.small, .string X.big, .slice A1 X.texts.length c1]
      replace B0 := B0.alloc (.cells #[.string X.small, .string X.big, .slice A1 X.texts.length c1] 133)
      have O2 := O1.ext (Ext.new (Below.refl _ _) (.cells #[.string X.small, .string X.big, .slice A1 X.texts.length c1] 133))
      replace he := he.new (.cells #[.string X.small, .string X.big, .slice A1 X.texts.length c1] 133)
      obtain ⟨g, hg⟩ : ∃ g, g = w1.heap.size := ⟨_, rfl⟩
      have hw2 : g + 1 ≤ (w1.alloc (.cells #[.string X.small, .string X.big, .slice A1 X.texts.length c1] 133)).heap.size := by simp; omega
      rw [← hg] at B1 hw1
      rw [← hg]
      clear hg O1
      generalize w1.alloc (.cells #[.string X.small, .string X.big, .slice A1 X.texts.length c1] 133) = w2 at *
      have q0 : w2.cell? ⟨b, off + k, none⟩ = some (.string p) := (he.cell (p := ⟨b, off + k, none⟩) hb).trans Hp.out
      have g1 : w2.cell? ⟨g, 0, none⟩ = some (.string X.small) := B1.cell 0
      have hsz : ¬ 9223372036854775807 < p.size + X.small.size := by omega
      have K1 := Lib.hid B1; have K0 := Lib.hid B0; have KO := Lib.hid O2; have KE := Lib.hid he
      clear B1 B0 O2 he
      go_wp2_with fail
      go_quiet (fail)
      clear q0 g1 hsz
      have D := Ext.drewN (Below.refl _ w2) nq
      have B1 := K1.out.ext D; have B0 := K0.out.ext D; have O2 := KO.out.ext D; have he := KE.out.next D
      replace hw2 : g + 1 ≤ (w2.drewN nq).heap.size := Nat.le_trans hw2 D.size
      clear D K1 K0 KO KE
      generalize w2.drewN nq = w22 at *
      have ht_Y : (p ++ X.small).size ≤ 64 := by rw [ByteArray.size_append]; omega
      generalize p ++ X.small = Y at *
      have q0 : w22.cell? ⟨b, off + k, none⟩ = some (.string p) := (he.cell (p := ⟨b, off + k, none⟩) hb).trans Hp.out
      have g1 : w22.cell? ⟨g, 1, none⟩ = some (.string X.big) := B1.cell 1
      have hsz : ¬ 9223372036854775807 < p.size + X.big.size := by omega
      have K1 := Lib.hid B1; have K0 := Lib.hid B0; have KO := Lib.hid O2; have KE := Lib.hid he
      clear B1 B0 O2 he
      go_wp2_with fail
      go_quiet (fail)
      clear q0 g1 hsz
      have D := Ext.drewN (Below.refl _ w22) nq
      have B1 := K1.out.ext D; have B0 := K0.out.ext D; have O2 := KO.out.ext D; have he := KE.out.next D
      replace hw2 : g + 1 ≤ (w22.drewN nq).heap.size := Nat.le_trans hw2 D.size
      clear D K1 K0 KO KE
      generalize w22.drewN nq = w3 at *
      have ht_Y2 : (p ++ X.big).size ≤ 64 := by rw [ByteArray.size_append]; omega
      generalize p ++ X.big = Y2 at *
      have g2 : w3.cell? ⟨g, 2, none⟩ = some (.slice A1 X.texts.length c1) := B1.cell 2
      have f1 := B1.frozen
      have KO := Lib.hid O2; clear O2
      have K1 := Lib.hid B1; have K0 := Lib.hid B0; have KE := Lib.hid he
      clear B1 B0 he
      go_wp2_with (at_builtin; refine wpList_append_own _ rfl _ _ 39 rfl (r + 1) 9 i0 (.string ⟨#[]⟩) 1 16 Tryz.underlying39 hi hz0 hz1 hz2 rfl (by decide) _ _ _ rfl (World.ownsRow.alloc (show w3.ownsRow (r + 1) 9 1 (.slice A1 X.texts.length c1) X.texts.length (X.texts.flatMap sone) from KO.out) _) ⟨w3.heap.size, 0, none⟩ 2 2 [.string Y, .string Y2] rfl rfl ?d1 ?d2 ?d3 ?d4 ?d5 ?_)
      case d1 => exact new_two _ _ _ _
      case d2 => exact two_cells _ _
      case d3 => unfold maxLen; omega
      case d4 => omega
      case d5 => simp; omega
      intro v' w4 hown' hgrow _
      have KR := World.ownsRow.alloc (show w3.ownsRow (r + 1) 9 1 (.slice A1 X.texts.length c1) X.texts.length (X.texts.flatMap sone) from KO.out) (.cells #[.string Y, .string Y2] 9)
      have hA : g + 1 ≤ (w3.alloc (.cells #[.string Y, .string Y2] 9)).heap.size := by simp; omega
      have hgA := own_apart KR (K1.out.alloc (.cells #[.string Y, .string Y2] 9)) (by decide)
      have Bg := fun (q : Nat) (hq : q < (w3.alloc (.cells #[.string Y, .string Y2] 9)).heap.size) (hne : (Value.slice A1 X.texts.length c1).ownBlock ≠ some q) => hgrow.block q hq hne.symm
      have B1 : Blk w4 g 133 #[.string X.small, .string X.big, .slice A1 X.texts.length c1] := (Bg g (by omega) hgA).trans (K1.out.alloc (.cells #[.string Y, .string Y2] 9))
      have B0 : Blk w4 r 133 #[.string ⟨#[]⟩, .string ⟨#[]⟩, .slice none 0 0] := (Bg r (by omega) (fun x => by have := (KR.lt r x).1; omega)).trans (K0.out.alloc (.cells #[.string Y, .string Y2] 9))
      have he := Ext.ownGrown (KE.out.new (.cells #[.string Y, .string Y2] 9)) KR hgrow (by omega)
      have hw4 : g + 1 ≤ w4.heap.size := Nat.le_trans hA hgrow.size
      rw [sone_two] at hown'
      obtain ⟨A2, c2, rfl, hc2⟩ := ownsRow_form hown'
      clear g2 f1 K1 K0 KE KO Bg hgrow hA KR hgA
      have KO : Hid (OwnT (r + 1) w4 (.slice A2 (X.texts.length + 2) c2) (X.texts ++ [Y, Y2])) := Lib.hid (by unfold OwnT; rw [List.length_append]; exact hown')
      clear hown'
      have g2' : w4.cell? ⟨g, 2, none⟩ = some (.slice A1 X.texts.length c1) := B1.cell 2
      have f1' := B1.frozen
      have K1 := Lib.hid B1; have K0 := Lib.hid B0; have KE := Lib.hid he
      clear B1 B0 he
      go_upto_region 17 with fail
      have B1 := K1.out.set_ 2 (.slice A2 (X.texts.length + 2) c2)
      have B0 := K0.out.far (p := ⟨g, 2, none⟩) (by simp; omega) (.slice A2 (X.texts.length + 2) c2)
      have O2 := ownT_set2 KO.out K1.out 2 (.slice A2 (X.texts.length + 2) c2)
      have he := Below.setCell KE.out (p := ⟨g, 2, none⟩) (by show w.heap.size ≤ g; omega) (.slice A2 (X.texts.length + 2) c2)
      rw [← size_set w4 ⟨g, 2, none⟩ (.slice A2 (X.texts.length + 2) c2)] at hw4
      clear K1 K0 KO KE
      generalize w4.setCell ⟨g, 2, none⟩ (.slice A2 (X.texts.length + 2) c2) = w5 at *
      have K1 := Lib.hid B1; have K0 := Lib.hid B0; have KO := Lib.hid O2; have KE := Lib.hid he
      clear B1 B0 O2 he
      go_wp2_with fail
      refine (specDigest_any wd 1 Y _ (by unfold maxLen; omega)).mono ?_
      rintro e w6 ⟨rfl, h6⟩
      rw [node_sz]
      have B1 := K1.out.ext h6; have B0 := K0.out.ext h6; have O2 := KO.out.ext h6; have he := Ext.next KE.out h6
      replace hw4 := Nat.le_trans hw4 h6.size
      clear K1 K0 KO KE h6
      have g1 : w6.cell? ⟨g, 0, none⟩ = some (.string X.small) := B1.cell 0
      have f1 := B1.frozen
      generalize nodeT wd Y = Z at *
      have K1 := Lib.hid B1; have K0 := Lib.hid B0; have KO := Lib.hid O2; have KE := Lib.hid he
      clear B1 B0 O2 he
      go_upto_region 18 with fail
      have B1 := K1.out.set_ 0 (.string Z)
      have B0 := K0.out.far (p := ⟨g, 0, none⟩) (by simp; omega) (.string Z)
      have O2 := ownT_set2 KO.out K1.out 0 (.string Z)
      have he := Below.setCell KE.out (p := ⟨g, 0, none⟩) (by show w.heap.size ≤ g; omega) (.string Z)
      rw [← size_set w6 ⟨g, 0, none⟩ (.string Z)] at hw4
      clear K1 K0 KO KE
      generalize w6.setCell ⟨g, 0, none⟩ (.string Z) = w65 at *
      clear g1 f1
      have K1 := Lib.hid B1; have K0 := Lib.hid B0; have KO := Lib.hid O2; have KE := Lib.hid he
      clear B1 B0 O2 he
      go_wp2_with fail
      refine (specDigest_any wd 1 Y2 _ (by unfold maxLen; omega)).mono ?_
      rintro e w66 ⟨rfl, h6⟩
      rw [node_sz]
      have B1 := K1.out.ext h6; have B0 := K0.out.ext h6; have O2 := KO.out.ext h6; have he := Ext.next KE.out h6
      replace hw4 := Nat.le_trans hw4 h6.size
      clear K1 K0 KO KE h6
      have g1 : w66.cell? ⟨g, 1, none⟩ = some (.string X.big) := B1.cell 1
      have f1 := B1.frozen
      generalize nodeT wd Y2 = Z2 at *
      have K1 := Lib.hid B1; have K0 := Lib.hid B0; have KO := Lib.hid O2; have KE := Lib.hid he
      clear B1 B0 O2 he
      go_upto_region 19 with fail
      have B1 := K1.out.set_ 1 (.string Z2)
      have B0 := K0.out.far (p := ⟨g, 1, none⟩) (by simp; omega) (.string Z2)
      have O2 := ownT_set2 KO.out K1.out 1 (.string Z2)
      have he := Below.setCell KE.out (p := ⟨g, 1, none⟩) (by show w.heap.size ≤ g; omega) (.string Z2)
      rw [← size_set w66 ⟨g, 1, none⟩ (.string Z2)] at hw4
      clear K1 K0 KO KE
      generalize w66.setCell ⟨g, 1, none⟩ (.string Z2) = w7 at *
      have B1' : Blk w7 g 133 #[.string Z, .string Z2, .slice A2 (X.texts.length + 2) c2] := B1
      obtain ⟨hc, hf⟩ := B1'.rules
      obtain ⟨hc0, hf0⟩ := B0.rules
      have B9 := Lib.hid (B0.put 0 [.string Z, .string Z2, .slice A2 (X.texts.length + 2) c2] #[.string Z, .string Z2, .slice A2 (X.texts.length + 2) c2] (by simp) (by simp))
      have O9 := Lib.hid (ownT_more (ownT_put O2 (g := r) (by omega) [.string Z, .string Z2, .slice A2 (X.texts.length + 2) c2] 0) (K' := w.heap.size) (by omega))
      have E9 := Lib.hid (ext_setCells (g := r) hrw [.string Z, .string Z2, .slice A2 (X.texts.length + 2) c2] 0 _ he)
      clear B1 B1' B0 O2 he g1 f1
      go_wp2_with fail
      refine ret_row rfl rfl B9.out Tryz.underlying133 rfl (by kernel_rfl) rfl ?_
      rw [E.out]
      exact ⟨_, rfl, O9.out, E9.out⟩
end Go.Proofs.YtichegndafnjeaaGreat

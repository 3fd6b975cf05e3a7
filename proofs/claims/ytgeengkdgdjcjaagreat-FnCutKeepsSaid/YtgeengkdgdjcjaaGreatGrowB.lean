/-
  SpecUnfr; SpecRec; ReopenQ; NodeW; GrowB: No condition.
-/
import Derived.Test.YtgeengkdgdjcjaaGreatReadRec
import Derived.Test.YtgeengkdgdjcjaaGreatReopenP
import Derived.Test.YtgeengkdgdjcjaaGreatFramesLaw
import Derived.Test.YtgeengkdgdjcjaaGreatReopen1
import Derived.Test.YtgeengkdgdjcjaaGreatFrames
import Derived.Test.YtgeengkdgdjcjaaGreatClientNw
import Derived.Test.YtgeengkdgdjcjaaGreatMerkle
import Derived.Test.YtgeengkdgdjcjaaGreatHashTop
import Derived.Test.YtgeengkdgdjcjaaGreatBroker1
import Derived.Test.YtgeengkdgdjcjaaGreatHashes
namespace Go.Proofs.YtgeengkdgdjcjaaGreat
set_option maxHeartbeats 4000000
set_option maxRecDepth 100000
set_option linter.unusedSimpArgs false
open Go.RowKit
set_option linter.unusedVariables false
theorem faOk_short {T : ByteArray} {p : Nat} (h : ¬ p + 6 + faN T p ≤ T.size) : faOk T p = false := by
 cases b : faOk T p
 · rfl
 · exact absurd (fa_bad b) h
theorem frameOut_le (T : ByteArray) : (frameOut T).size ≤ T.size + 6 := by
 unfold frameOut
 split
 · rename_i h
   have := dig4_size h
   have := lowB_size T.size 2
   rw [frameB, ByteArray.size_append, ByteArray.size_append]; omega
 · exact Nat.zero_le _
theorem specUnframe_any (T : ByteArray) (w : World) (hT : T.size ≤ 1099511627776) :
 Calls Tryz.prog 13 #[.string T] w fun e w' => ∃ v, e = .returned (.tuple #[v, .int .i64 ((unf T).2 : Int)]) ∧ OwnS w w' v (unf T).1 ∧ Ext w w' := by
 by_cases hbig : 300000 < T.size
 · have E := hU (show unf T = ([], 0) by rw [unf, if_neg (by omega)])
   have H0 := hU (ownsRow_empty w 9 1)
   have HE := hU (Ext.new (Below.refl w.heap.size w) (.cells #[] 9))
   go_enter Tryz.func13, Tryz.ntmps13
   go_wp2_with fail
   go_ret2
   exact ⟨_, by rw [E.out]; rfl, by rw [E.out]; exact H0.out, HE.out⟩
 obtain ⟨fin, hfin⟩ : ∃ fin, fin = unf T := ⟨_, rfl⟩
 have Hi : UInv T fin [] 0 := by rw [hfin, unf, if_pos (by omega)]; exact ⟨by simp, Nat.zero_le _, rfl, rfl⟩
 rw [← hfin]
 clear hfin
 obtain ⟨i0, hi, hz0, hz1, hz2⟩ := info_parts info_str
 have H0 := hU (ownsRow_empty w 9 1)
 have HE := hU (Ext.new (Below.refl w.heap.size w) (.cells #[] 9))
 go_enter Tryz.func13, Tryz.ntmps13
 go_wp2_with fail
 obtain ⟨B, hB⟩ : ∃ B, B = w.heap.size := ⟨_, rfl⟩
 rw [← hB] at H0
 rw [← hB]
 have Hb : w.heap.size ≤ B := by omega
 have HB := hU hB
 clear hB
 go_loopw [4, 5] (fun v x wr => ∃ (l : List ByteArray) (p : Nat), UInv T fin l p ∧ x = .int .i64 (p : Int) ∧ wr.ownsRow B 9 1 v l.length (svals l) ∧ Ext w wr) (fun _ x _ => T.size - (intOf x).toNat)
 case atStart => exact ⟨[], 0, Hi, rfl, H0.out, HE.out⟩
 case round =>
  clear H0 HE Hi
  obtain ⟨l, p, hu, rfl, hown, he⟩ := hrel
  obtain ⟨A, c, rfl, hnc⟩ := ownsRow_form hown
  have KO := hU hown
  clear hown
  have hul := hu.len
  have hup := hu.pos
  by_cases hlt : l.length < 600
  case neg =>
   have d1 : decide ((l.length : Int) < 600) = false := by rw [decide_eq_false_iff_not]; omega
   obtain ⟨e1, e2⟩ := hu.done (by omega)
   have HF : Hid (OwnS w wr (.slice A l.length c) fin.1) := hU (by have := KO.out; rw [HB.out, e1] at this; unfold OwnS; rw [e1]; exact this)
   have HP := hU e2
   clear e1 e2 hu KO
   go_wp2_with fail
   go_ret2
   exact ⟨_, by show Ending.returned (.tuple #[.slice A l.length c, .int .i64 (p : Int)]) = _; rw [HP.out], HF.out, he⟩
  have d1 : decide ((l.length : Int) < 600) = true := by rw [decide_eq_true_eq]; omega
  by_cases hs6 : p + 6 ≤ T.size
  case neg =>
   have d2 : decide ((6 : Int) ≤ (T.size : Int) - (p : Int)) = false := by rw [decide_eq_false_iff_not]; omega
   obtain ⟨e1, e2⟩ := hu.stop hlt (faOk_short (by omega))
   have HF : Hid (OwnS w wr (.slice A l.length c) fin.1) := hU (by have := KO.out; rw [HB.out, e1] at this; unfold OwnS; rw [e1]; exact this)
   have HP := hU e2
   clear e1 e2 hu KO
   go_wp2_with fail
   go_ret2
   exact ⟨_, by show Ending.returned (.tuple #[.slice A l.length c, .int .i64 (p : Int)]) = _; rw [HP.out], HF.out, he⟩
  have d2 : decide ((6 : Int) ≤ (T.size : Int) - (p : Int)) = true := by rw [decide_eq_true_eq]; omega
  have p4 : p < T.size := by omega
  have p5 : p + 1 < T.size := by omega
  have hN := faN_two hs6
  have x1 := (T[p]'p4).toNat_lt
  have x2 := (T[p + 1]'p5).toNat_lt
  obtain ⟨N, hNe⟩ : ∃ N, N = faN T p := ⟨_, rfl⟩
  rw [← hNe] at hN
  have hNl : N < 65536 := by omega
  have w5 : IntKind.i64.wrap (256 * ((T[p]'p4).toNat : Int) + ((T[p + 1]'p5).toNat : Int)) = (N : Int) := by rw [hN]; rw [IntWalk.i64_in _ (by omega)]; omega
  have w4 : IntKind.i64.wrap (256 * ((T[p]'p4).toNat : Int)) = 256 * ((T[p]'p4).toNat : Int) := IntWalk.i64_in _ (by omega)
  have w3 : IntKind.i64.wrap ((T[p + 1]'p5).toNat : Int) = ((T[p + 1]'p5).toNat : Int) := IntWalk.i64_in _ (by omega)
  have w2 : IntKind.i64.wrap ((T[p]'p4).toNat : Int) = ((T[p]'p4).toNat : Int) := IntWalk.i64_in _ (by omega)
  have w1 : IntKind.i64.wrap ((p : Int) + 1) = (p : Int) + 1 := IntWalk.i64_in _ (by omega)
  have p0 : (0 : Int) ≤ (p : Int) := by omega
  have p1 : (p : Int) < (T.size : Int) := by omega
  have p2 : (p : Int) + 1 < (T.size : Int) := by omega
  have p3 : (0 : Int) ≤ (p : Int) + 1 := by omega
  have HNe := hU hNe
  clear hN x1 x2 hNe
  go_wp2_with fail
  go_quiet (fail)
  clear w1 w2 w3 w4 w5
  replace he := he.drewN nq
  have KO1 : Hid ((wr.drewN nq).ownsRow B 9 1 (.slice A l.length c) l.length (svals l)) := hU KO.out
  clear KO
  generalize wr.drewN nq = w1 at *
  by_cases hfit : p + 6 + N ≤ T.size
  case neg =>
   have d3 : decide ((T.size : Int) - (p : Int) - 6 < (N : Int)) = true := by rw [decide_eq_true_eq]; omega
   obtain ⟨e1, e2⟩ := hu.stop hlt (faOk_short (by rw [← HNe.out]; exact hfit))
   have HF : Hid (OwnS w w1 (.slice A l.length c) fin.1) := hU (by have := KO1.out; rw [HB.out, e1] at this; unfold OwnS; rw [e1]; exact this)
   have HP := hU e2
   clear e1 e2 hu KO1
   go_wp2_with fail
   go_ret2
   exact ⟨_, by show Ending.returned (.tuple #[.slice A l.length c, .int .i64 (p : Int)]) = _; rw [HP.out], HF.out, he⟩
  have d3 : decide ((T.size : Int) - (p : Int) - 6 < (N : Int)) = false := by rw [decide_eq_false_iff_not]; omega
  have Hx := hU (fa_all (T := T) (p := p) (by rw [← HNe.out]; exact hfit)).2
  have Ht := hU (fa_test (T := T) (p := p) (by rw [← HNe.out]; exact hfit))
  rw [← HNe.out] at Hx Ht
  have e6 : ((p : Int) + 6 + (N : Int)).toNat = p + 6 + N := by omega
  have hxs : (T.extract (p + 6) (p + 6 + N)).size = N := by rw [ByteArray.size_extract]; omega
  obtain ⟨x, hx⟩ : ∃ x, x = T.extract (p + 6) (p + 6 + N) := ⟨_, rfl⟩
  rw [← hx] at Hx hxs
  have hfl := frameOut_le x
  have Hfl := hU hfl
  have Hxs := hU hxs
  clear hfl
  go_wp2_with fail
  rw [← hx]
  clear hx
  refine (specFrame_any x _ (by unfold maxLen; omega)).mono ?_
  rintro e w2 ⟨rfl, h1⟩
  replace he := he.next h1
  have KO2 := hU (ownsRow_ext KO1.out h1)
  clear h1 KO1
  rw [hxs]
  clear hxs
  obtain ⟨fo, hfo⟩ : ∃ fo, fo = frameOut x := ⟨_, rfl⟩
  have Ht2 := hU (show faOk T p = (inR (N : Int) 1 1000 && (fo.toList == (T.extract p (p + 6 + N)).toList)) by rw [Ht.out, Hx.out, hfo])
  rw [← hfo]
  clear hfo Ht
  cases bin : inR (N : Int) 1 1000
  case false =>
   obtain ⟨e1, e2⟩ := hu.stop hlt (by rw [Ht2.out, bin]; rfl)
   have HF : Hid (OwnS w w2 (.slice A l.length c) fin.1) := hU (by have := KO2.out; rw [HB.out, e1] at this; unfold OwnS; rw [e1]; exact this)
   have HP := hU e2
   clear e1 e2 hu KO2
   go_wp2_with fail
   go_ret2
   exact ⟨_, by show Ending.returned (.tuple #[.slice A l.length c, .int .i64 (p : Int)]) = _; rw [HP.out], HF.out, he⟩
  cases beq : (fo.toList == (T.extract p (p + 6 + N)).toList)
  case false =>
   obtain ⟨e1, e2⟩ := hu.stop hlt (by rw [Ht2.out, bin, beq]; rfl)
   have HF : Hid (OwnS w w2 (.slice A l.length c) fin.1) := hU (by have := KO2.out; rw [HB.out, e1] at this; unfold OwnS; rw [e1]; exact this)
   have HP := hU e2
   clear e1 e2 hu KO2
   go_wp2_with fail
   go_ret2
   exact ⟨_, by show Ending.returned (.tuple #[.slice A l.length c, .int .i64 (p : Int)]) = _; rw [HP.out], HF.out, he⟩
  have hok : faOk T p = true := by rw [Ht2.out, bin, beq]; rfl
  have hq := faOk_pos hok
  rw [← HNe.out] at hq
  have Hu := hU (show UInv T fin (l ++ [x]) (p + 6 + N) by have := hu.step hlt hok; rwa [Hx.out, hq.1] at this)
  clear hu hok hq
  have hB2 : B ≤ w2.heap.size := by have := he.size; have := HB.out; omega
  go_wp2_with (at_builtin; refine wpList_append_own _ rfl _ _ 29 rfl B 9 i0 (.string ⟨#[]⟩) 1 16 Tryz.underlying29 hi hz0 hz1 hz2 rfl (by decide) _ _ _ rfl (KO2.out.alloc _) ⟨w2.heap.size, 0, none⟩ 1 1 [.string x] rfl rfl ?c1 ?c2 ?c3 ?c4 ?c5 ?_)
  case c1 => exact one_at _ _ _
  case c2 => exact one_cell rfl
  case c3 => unfold maxLen; omega
  case c4 => omega
  case c5 => simp; omega
  intro v' w3 hown' hgrow _
  have he1 := Ext.ownGrown (Ext.new he _) (KO2.out.alloc _) hgrow Hb
  rw [svals_snoc] at hown'
  have KO' := hU hown'
  clear hown' hgrow KO2 he
  go_wp2_with fail
  go_roundw
  case rel => exact ⟨l ++ [x], p + 6 + N, Hu.out, congrArg (Value.int .i64) (by omega), by have := KO'.out; simpa using this, he1⟩
  case measure => simp [intOf]; omega

theorem unfGo_len (T : ByteArray) : ∀ (f p : Nat), (unfGo T f p).1.length ≤ f
 | 0, p => by simp [unfGo]
 | f + 1, p => by
   rw [unfGo]
   split
   · have := unfGo_len T f (fa3 T p).pos; simp; omega
   · simp
theorem unf_len (T : ByteArray) : (unf T).1.length ≤ 600 := by
 unfold unf
 split
 · exact unfGo_len T 600 0
 · simp
theorem unfGo_size (T : ByteArray) : ∀ (f p : Nat), ∀ x ∈ (unfGo T f p).1, x.size ≤ T.size
 | 0, p => by simp [unfGo]
 | f + 1, p => by
   rw [unfGo]
   split
   · intro x hx
     rcases List.mem_cons.1 hx with rfl | hx
     · unfold faText rdTake
       split
       · exact Nat.zero_le _
       · rw [ByteArray.size_extract]; omega
     · exact unfGo_size T f _ x hx
   · intro x hx; simp at hx
theorem unf_size (T : ByteArray) : ∀ x ∈ (unf T).1, x.size ≤ T.size := by
 unfold unf
 split
 · exact unfGo_size T 600 0
 · intro x hx; simp at hx
theorem unfGo_end (T : ByteArray) : ∀ (f p : Nat), p ≤ T.size → (unfGo T f p).2 ≤ T.size
 | 0, p => fun h => by simpa [unfGo] using h
 | f + 1, p => fun h => by
   rw [unfGo]
   split
   · rename_i hk
     exact unfGo_end T f _ (faOk_pos hk).2.1
   · exact h
theorem unf_end (T : ByteArray) : (unf T).2 ≤ T.size := by
 unfold unf
 split
 · exact unfGo_end T 600 0 (Nat.zero_le _)
 · exact Nat.zero_le _
theorem dmgs_len : ∀ (l : List ByteArray) (i : Nat), (dmgs i l).length ≤ l.length
 | [], i => Nat.le_refl _
 | x :: t, i => by
   have h := dmgs_len t (i + 1)
   have h1 : (dmg1 i x).length ≤ 1 := by unfold dmg1; split <;> simp
   simp only [dmgs, List.length_append, List.length_cons]
   omega
theorem files_len (l : List ByteArray) (i : Nat) : (filesOf l i).length ≤ 600 := unf_len _
theorem files_size {l : List ByteArray} (h : ∀ x ∈ l, x.size ≤ 1099511627776) (i : Nat) : ∀ x ∈ filesOf l i, x.size ≤ 1099511627776 := by
 intro x hx
 refine Nat.le_trans (unf_size _ x hx) ?_
 rw [List.getD_eq_getElem?_getD]
 cases e : l[i]? with
 | none => exact Nat.zero_le _
 | some y => exact h y (List.mem_of_getElem? e)
theorem all_map {α β : Type} {p : α → Bool} {f g : α → β} : ∀ {l : List α}, l.all p = true → (∀ x, p x = true → f x = g x) → l.map f = l.map g := by
 intro l h hf
 exact List.map_congr_left fun x hx => hf x (List.all_eq_true.1 h x hx)
set_option maxHeartbeats 1000000
theorem node_any (n : Int) (a b : ByteArray) (w : World) (ha : a.size ≤ 1000) (hb : b.size ≤ 1000) : Calls Tryz.prog 139 #[.int .i64 n, .string a, .string b] w fun e w' => e = .returned (.string (nodeT n (a ++ b))) ∧ Ext w w' := by
 have hs : (a ++ b).size ≤ maxLen := by rw [ByteArray.size_append]; unfold maxLen; omega
 go_enter Tryz.func139, Tryz.ntmps139
 go_wp2_with fail
 refine (Digest_any n 1 (a ++ b) _ hs).mono ?_
 rintro e w1 ⟨rfl, h1⟩
 go_wp2_with fail
 go_ret
 exact ⟨rfl, h1⟩
def RowT (B : Nat) (w : World) (v : Value) (ts : List ByteArray) : Prop := w.ownsRow B 9 1 v ts.length (ts.flatMap sone)
theorem RowT.ext {B : Nat} {w w' : World} {v : Value} {ts : List ByteArray} (h : RowT B w v ts) (he : Ext w w') : RowT B w' v ts := ownsRow_ext h he
theorem RowT.of {B : Nat} {w : World} {v : Value} {n : Nat} {xs : List Value} {ts : List ByteArray} (h : w.ownsRow B 9 1 v n xs) (hn : n = ts.length) (hx : xs = ts.flatMap sone) : RowT B w v ts := by
 subst hn; subst hx; exact h
theorem RowT.nil (B : Nat) (w : World) : RowT B w (.slice none 0 0) [] := World.ownsRow_nil w B 9 1
theorem RowT.apart {B g T : Nat} {w : World} {v : Value} {ts : List ByteArray} {cs : Array Value} (h : RowT B w v ts) (hB : Blk w g T cs) (hT : T ≠ 9) : ∀ b, v.ownBlock = some b → b ≠ g := by
 intro b hb e
 subst e
 rcases h.2 with ⟨h1, _⟩ | ⟨g2, cap, cur, hv, hg, hh, _⟩
 · rw [h1] at hb; cases hb
 · rw [hv] at hb
   obtain rfl : g2 = b := by simpa [Value.ownBlock] using hb
   have := hB.symm.trans hh
   simp at this
   exact hT this.2
theorem RowT.lt {B : Nat} {w : World} {v : Value} {ts : List ByteArray} (h : RowT B w v ts) : ∀ b, v.ownBlock = some b → B ≤ b ∧ b < w.heap.size := fun b hb => World.ownsRow.lt h b hb
theorem RowT.setCell {B g T : Nat} {w : World} {v : Value} {ts : List ByteArray} {cs : Array Value} (h : RowT B w v ts) (hB : Blk w g T cs) (hT : T ≠ 9) (o : Nat) (u : Value) : RowT B (w.setCell ⟨g, o, none⟩ u) v ts := by
 have hk : Frm (fun b => b = g) w (w.setCell ⟨g, o, none⟩ u) := Frm.setCells (X := fun b => b = g) (Frm.refl _ w) (g := g) (fun _ => rfl) [u] o
 exact hk.own h (fun b hb => h.apart hB hT b hb)
theorem Frm.setCell1 {X : Nat → Prop} {w w1 : World} (h : Frm X w w1) {g : Nat} (hg : g < w.heap.size → X g) (o : Nat) (u : Value) : Frm X w (w1.setCell ⟨g, o, none⟩ u) := h.setCells hg [u] o
theorem RowT.cells {B : Nat} {w : World} {v : Value} {ts : List ByteArray} (h : RowT B w v ts) : ∃ A c, v = .slice A ts.length c ∧ ts.length ≤ c ∧ c ≤ maxLen ∧ (0 < ts.length → ∃ b off, A = some ⟨b, off, none⟩ ∧ b < w.heap.size ∧ ∀ (k : Nat) (t : ByteArray), ts[k]? = some t → w.cell? ⟨b, off + k, none⟩ = some (.string t)) := by
 have h0 := h
 rcases h0.2 with ⟨h1, h2⟩ | ⟨g, cap, cur, hv, hg, hh, hn, hm, hrest⟩
 · exact ⟨none, 0, by rw [h1, h2], by omega, Nat.zero_le _, fun h => absurd h (by omega)⟩
 · refine ⟨_, cap, hv, hn, hm, fun hpos => ?_⟩
   have hr := Reads.of_own (A := some ⟨g, 0, none⟩) (c := cap) (by rw [← hv]; exact h)
   obtain ⟨b, off, e, hb, hc⟩ := hr.2 hpos
   refine ⟨b, off, e, hb, fun k t hk => ?_⟩
   have := hc (k * 1 + 0) (.string t) (by rw [flat_at sone 1 sone_length ts k 0 t hk (by omega)]; rfl)
   rwa [Nat.mul_one, Nat.add_zero] at this
theorem grow_any (wd : Int) (hwd : inR wd 1 32 = true) (B g T o n : Nat) (cs : Array Value) (v : Value) (s : List ByteArray) (leaf : ByteArray) (w : World)
 (hB : Blk w g T cs) (hT : T ≠ 9) (h0 : cs[o]? = some (.int .i64 (n : Int))) (h1 : cs[o + 1]? = some v) (hown : RowT B w v s.reverse) (hBw : B ≤ w.heap.size)
 (hs : ∀ x ∈ s, WdT wd x) (hl : WdT wd leaf) (hlen : s.length = pc n) (hn : n ≤ 100000) :
 Calls Tryz.prog 282 #[.pointer (some ⟨g, o, none⟩), .int .i64 wd, .string leaf] w fun e w' => ∃ m v', e = .returned (.int .i64 m) ∧ Blk w' g T ((cs.setIfInBounds o (.int .i64 ((n + 1 : Nat) : Int))).setIfInBounds (o + 1) v') ∧
  RowT B w' v' (carryN (ndB wd) n s leaf).reverse ∧ Frm (fun b => b = g ∨ v.ownBlock = some b) w w' ∧ Moved v v' w.heap.size := by
 obtain ⟨i0, hi, hz0, hz1, hz2⟩ := info_parts info_string
 have hw2 := inR_true hwd
 have ho : o + 1 < cs.size := (Array.getElem?_eq_some_iff.1 h1).1
 have hpl := pc_le n
 obtain ⟨A, c, hv, hnc, hcm, _⟩ := hown.cells
 subst hv
 have hvm : (.slice A s.reverse.length c : Value) = .slice A s.length c := by rw [List.length_reverse]
 rw [List.length_reverse] at hnc
 rw [hvm] at h1 hown
 rw [hvm]
 clear hvm
 obtain ⟨hc, hf⟩ := hB.rules
 have c0 : w.cell? ⟨g, o, none⟩ = some (.int .i64 (n : Int)) := (hc o).trans h0
 have c1 : w.cell? ⟨g, o + 1, none⟩ = some (.slice A s.length c) := (hc (o + 1)).trans h1
 obtain ⟨V, hV⟩ : ∃ V, V = (.slice A s.length c : Value) := ⟨_, rfl⟩
 have HV := hU hV
 rw [← hV]
 have KO := hU (show w.ownsRow B 9 1 (.slice A s.length c) s.length (s.reverse.flatMap sone) by have := hown; unfold RowT at this; rwa [List.length_reverse] at this)
 have HB := hU hB
 have H0 := hU h0
 have Hs := hU hs
 have Hl := hU hl
 have hsl : s.length ≤ 100000 := by omega
 clear hc hown hB h0 h1 hV hs hl hpl
 have Hlen := hU hlen
 clear hlen
 obtain ⟨Fn, hFn⟩ : ∃ Fn, Fn = carryN (ndB wd) n s leaf := ⟨_, rfl⟩
 have FF := hU hFn
 rw [← hFn]
 clear hFn
 go_enter Tryz.func282, Tryz.ntmps282
 go_wp2_with (at_builtin; refine wpList_append_moved _ rfl _ _ 29 rfl B 9 i0 _ 1 16 Tryz.underlying29 hi hz0 hz1 hz2 rfl (by decide) _ _ _ rfl (KO.out.alloc _) ⟨w.heap.size, 0, none⟩ 1 1 [.string leaf] rfl rfl ?c1 ?c2 ?c3 ?c4 ?c5 ?_)
 case c1 => exact (Blk.new w 9 #[.string leaf]).adds
 case c2 => intro u hu; simp at hu; subst hu; rfl
 case c3 => unfold maxLen; omega
 case c4 => omega
 case c5 => simp; omega
 intro v1 w1 hown1 hfrm1 hmv1
 rw [← HV.out] at hfrm1 hmv1
 have hap := RowT.apart (RowT.of KO.out (by simp) rfl) HB.out hT
 rw [← HV.out] at hap
 have hgl := HB.out.lt
 have B1 : Blk w1 g T cs := hfrm1.blk (HB.out.alloc _) (fun e => hap g e rfl)
 have F1 : Frm (fun b => b = g ∨ V.ownBlock = some b) w w1 := (Frm.of_ext (Ext.new (Below.refl w.heap.size w) _)).next hfrm1 (fun b _ hy => Or.inr hy)
 have M1 : Moved V v1 w.heap.size := fun b hb => (hmv1 b hb).imp id (fun h => by omega)
 have R1 : RowT B w1 v1 (leaf :: s).reverse := RowT.of hown1 (by simp) (by simp [sone])
 obtain ⟨A1, c1', hv1, hnc1⟩ := ownsRow_form hown1
 subst hv1
 have q1 : w1.cell? ⟨g, o + 1, none⟩ = some (.slice A s.length c) := by rw [B1.cell, ← HB.out.cell]; exact c1
 obtain ⟨_, f1⟩ := B1.rules
 have B2 := B1.set_ (o + 1) (.slice A1 (s.length + 1) c1')
 have F2 := F1.setCell1 (g := g) (fun _ => Or.inl rfl) (o + 1) (.slice A1 (s.length + 1) c1')
 have R2 := R1.setCell B1 hT (o + 1) (.slice A1 (s.length + 1) c1')
 have B2 := hU B2; have F2 := hU F2; have R2 := hU R2; have M2 := hU M1
 clear hown1 hfrm1 hmv1 F1 R1 KO c0 c1 hf M1
 go_upto_region 3 with fail
 generalize w1.setCell ⟨g, o + 1, none⟩ (.slice A1 (s.length + 1) c1') = w2 at *
 obtain ⟨hc, hf⟩ := B2.out.rules
 have c0 : w2.cell? ⟨g, o, none⟩ = some (.int .i64 (n : Int)) := by rw [hc, Array.getElem?_setIfInBounds_ne (by omega)]; exact H0.out
 clear hc f1 q1 B1
 go_wp2_with fail
 have hpn : n ≤ 100000 := hn
 clear c0
 go_loopw [7, 8] (fun mk sz wr => ∃ (m : Nat) (mk' : Int) (p : ByteArray) (t : List ByteArray) (vr : Value), sz = .int .i64 (m : Int) ∧ mk = .int .i64 mk' ∧ carryN (ndB wd) m t p = Fn ∧ t.length = pc m ∧ (∀ x ∈ t, WdT wd x) ∧ WdT wd p ∧ m ≤ n ∧
  Blk wr g T (cs.setIfInBounds (o + 1) vr) ∧ RowT B wr vr (p :: t).reverse ∧ Frm (fun b => b = g ∨ V.ownBlock = some b) w wr ∧ Moved V vr w.heap.size) (fun _ sz _ => (intOf sz).toNat)
 case atStart => exact ⟨n, 0, leaf, s, _, rfl, rfl, FF.out.symm, Hlen.out, Hs.out, Hl.out, Nat.le_refl _, B2.out, R2.out, F2.out, M2.out⟩
 case round =>
  clear B2 R2 F2 M2 hf
  obtain ⟨m, mk', p, t, vr, rfl, rfl, hF, htl, ht, hp, hmn, hB, hR, hFr, hM⟩ := hrel
  have htl2 := pc_le m
  obtain ⟨hc, hf⟩ := hB.rules
  have c0 : wr.cell? ⟨g, o, none⟩ = some (.int .i64 (n : Int)) := by rw [hc, Array.getElem?_setIfInBounds_ne (by omega)]; exact H0.out
  have c1 : wr.cell? ⟨g, o + 1, none⟩ = some vr := by rw [hc, Array.getElem?_setIfInBounds_self]; exact if_pos ho
  rcases Nat.mod_two_eq_zero_or_one m with h2 | h2
  · have t1 : Int.tmod (m : Int) 2 = 0 := by rw [Int.tmod_eq_emod_of_nonneg (by omega)]; omega
    rw [carryN_even _ h2] at hF
    have B3 := (hB.set_ o (.int .i64 ((n : Int) + 1)))
    have F3 := hFr.setCell1 (g := g) (fun _ => Or.inl rfl) o (.int .i64 ((n : Int) + 1))
    have R3 := hR.setCell hB hT o (.int .i64 ((n : Int) + 1))
    have B3 := hU B3; have F3 := hU F3; have R3 := hU R3; have M3 := hU hM
    clear hc hB hR hFr hM c1
    go_upto_region 11 with fail
    generalize wr.setCell ⟨g, o, none⟩ (.int .i64 ((n : Int) + 1)) = w3 at *
    go_wp2_with fail
    go_ret
    refine ⟨mk', vr, rfl, ?_, by rw [← hF]; exact R3.out, F3.out, M3.out⟩
    have := B3.out
    rw [Array.setIfInBounds_comm _ _ (by omega)] at this
    exact this
  · match t, htl, ht, hF, hR, htl2 with
    | [], htl, _, _, _, _ => rw [(pc_odd h2).2] at htl; simp at htl
    | q :: r, htl, ht, hF, hR, htl2 =>
      have t1 : Int.tmod (m : Int) 2 = 1 := by rw [Int.tmod_eq_emod_of_nonneg (by omega)]; omega
      have t2 : Int.tdiv (m : Int) 2 = ((m / 2 : Nat) : Int) := by rw [Int.tdiv_eq_ediv_of_nonneg (by omega)]; rfl
      rw [carryN_odd _ h2] at hF
      have hrl : r.length = pc (m / 2) := by rw [(pc_odd h2).2] at htl; simpa using htl
      obtain ⟨A', c', hvr, hlc, hcm', hcl⟩ := hR.cells
      obtain ⟨b, off, rfl, hb, hcl⟩ := hcl (by simp)
      obtain ⟨L, hL⟩ : ∃ L, L = (p :: q :: r).reverse.length := ⟨_, rfl⟩
      have hL2 : L = r.length + 2 := by rw [hL]; simp
      have hp0 := hcl (r.length) q (by simp)
      have hp1 := hcl (r.length + 1) p (by simp)
      have ap := RowT.apart hR hB hT
      rw [← hL] at hvr hlc
      subst hvr
      have hw2 := inR_true hwd
      have sq : q.size ≤ 1000 := by have := ht q (by simp); unfold WdT at this; omega
      have sp : p.size ≤ 1000 := by have := hp; unfold WdT at this; omega
      have hJ : WdT wd (nodeT wd (q ++ p)) := ndB_wd hwd q p (ht q (by simp)) hp
      have e1 : (L : Int) - 2 = (r.length : Int) := by omega
      have e2 : (L : Int) - 1 = ((r.length + 1 : Nat) : Int) := by omega
      have hrs : r.length ≤ 100000 := by simp at htl; omega
      have e3 : IntKind.i64.wrap (r.length : Int) = (r.length : Int) := IntWalk.i64_in _ (by omega)
      have e4 : IntKind.i64.wrap ((r.length + 1 : Nat) : Int) = ((r.length + 1 : Nat) : Int) := IntWalk.i64_in _ (by omega)
      have HR := hU hR; have HB := hU hB; have HF := hU hF; have HT := hU ht; have HP := hU hp; have HFr := hU hFr; have HM := hU hM; have HJ := hU hJ; have AP := hU ap; have HL := hU hL
      have HRL := hU hrl
      obtain ⟨k1, hk1⟩ : ∃ k1, k1 = r.length + 1 := ⟨_, rfl⟩
      rw [← hk1] at hp1 e2 e4
      obtain ⟨k0, hk0⟩ : ∃ k0, k0 = r.length := ⟨_, rfl⟩
      have hlt0 : k0 < L := by omega
      have hlt1 : k1 < L := by omega
      have K0 := hU hk0
      rw [← hk0] at hp0 e1 e3 hrs
      clear hk1 hR hB hF ht hp hFr hM hJ ap hL hL2 hcl hc hk0 htl htl2 hrl
      go_wp2_with fail
      go_still_tail 17, (by kernel_rfl)
      change wpList _ _ _ _ _ wr.drew
      generalize hwd2 : wr.drew = w2
      have HB2 : Hid (Blk w2 g T (cs.setIfInBounds (o + 1) (.slice (some ⟨b, off, none⟩) L c'))) := hU (by rw [← hwd2]; exact HB.out)
      have HR2 : Hid (RowT B w2 (.slice (some ⟨b, off, none⟩) L c') (p :: q :: r).reverse) := hU (by rw [← hwd2]; exact HR.out)
      have HF2 : Hid (Frm (fun b => b = g ∨ V.ownBlock = some b) w w2) := hU (by rw [← hwd2]; exact HFr.out.drew)
      clear hwd2 HB HR HFr c0 c1 hf hp0 hp1
      go_wp2_with fail
      refine (node_any wd q p _ sq sp).mono ?_
      rintro e w3 ⟨rfl, h1⟩
      replace HB2 := hU (HB2.out.ext h1); replace HR2 := hU (HR2.out.ext h1); replace HF2 := hU (HF2.out.ext h1)
      clear h1
      obtain ⟨J, hJ⟩ : ∃ J, J = nodeT wd (q ++ p) := ⟨_, rfl⟩
      rw [← hJ]
      have HJ2 := hU hJ
      clear hJ
      obtain ⟨hc, hf⟩ := HB2.out.rules
      have c1 : w3.cell? ⟨g, o + 1, none⟩ = some (.slice (some ⟨b, off, none⟩) L c') := by rw [hc, Array.getElem?_setIfInBounds_self]; exact if_pos ho
      clear hc
      have KO := hU (show w3.ownsRow B 9 1 (.slice (some ⟨b, off, none⟩) k0 c') k0 (r.reverse.flatMap sone) by
       have h1 := HR2.out
       unfold RowT at h1
       rw [← HL.out] at h1
       have h2 := ownsRow_take h1 (m := k0) (by omega)
       rw [Nat.mul_one] at h2
       have h3 : ((p :: q :: r).reverse.flatMap sone).take k0 = r.reverse.flatMap sone := by
        rw [List.reverse_cons, List.reverse_cons, List.append_assoc, List.flatMap_append, List.take_append_of_le_length (by rw [flat_len sone 1 sone_length, List.length_reverse, K0.out]; omega), List.take_of_length_le (by rw [flat_len sone 1 sone_length, List.length_reverse, K0.out]; omega)]
       rwa [h3] at h2)
      have hlc2 : k0 ≤ c' := by omega
      have hcm2 : c' ≤ 9223372036854775807 := by unfold maxLen at hcm'; omega
      have hBw3 : B ≤ w3.heap.size := Nat.le_trans hBw HF2.out.size
      go_wp2_with (at_builtin; refine wpList_append_moved _ rfl _ _ 29 rfl B 9 i0 _ 1 16 Tryz.underlying29 hi hz0 hz1 hz2 rfl (by decide) _ _ _ rfl (KO.out.alloc _) ⟨w3.heap.size, 0, none⟩ 1 1 [.string J] rfl rfl ?d1 ?d2 ?d3 ?d4 ?d5 ?_)
      case d1 => exact (Blk.new w3 9 #[.string J]).adds
      case d2 => intro u hu; simp at hu; subst hu; rfl
      case d3 => unfold maxLen; omega
      case d4 => omega
      case d5 => simp; omega
      intro v4 w4 hown4 hfrm4 hmv4
      have HM3 : ∀ x, (.slice (some ⟨b, off, none⟩) k0 c' : Value).ownBlock = some x → V.ownBlock = some x ∨ w.heap.size ≤ x := fun x hx => HM.out x hx
      have B4 : Blk w4 g T (cs.setIfInBounds (o + 1) (.slice (some ⟨b, off, none⟩) L c')) := hfrm4.blk (HB2.out.alloc _) (fun e => AP.out g e rfl)
      have F4 : Frm (fun b => b = g ∨ V.ownBlock = some b) w w4 := (HF2.out.ext (Ext.new (Below.refl w3.heap.size w3) _)).next hfrm4 (fun y hy hx => by
       rcases HM3 y hx with h | h
       · exact Or.inr h
       · omega)
      have M4 : Moved V v4 w.heap.size := fun x hx => by
       rcases hmv4 x hx with h | h
       · exact HM3 x h
       · have := HF2.out.size; exact Or.inr (by omega)
      have R4 : RowT B w4 v4 (J :: r).reverse := RowT.of hown4 (by simp [K0.out]) (by simp [sone])
      obtain ⟨A5, c5, hv5, hnc5⟩ := ownsRow_form hown4
      subst hv5
      have q4 : w4.cell? ⟨g, o + 1, none⟩ = some (.slice (some ⟨b, off, none⟩) L c') := by rw [B4.cell, Array.getElem?_setIfInBounds_self]; exact if_pos ho
      obtain ⟨_, f4⟩ := B4.rules
      have B5 := B4.set_ (o + 1) (.slice A5 (k0 + 1) c5)
      rw [Array.setIfInBounds_setIfInBounds] at B5
      have F5 := F4.setCell1 (g := g) (fun _ => Or.inl rfl) (o + 1) (.slice A5 (k0 + 1) c5)
      have R5 := R4.setCell B4 hT (o + 1) (.slice A5 (k0 + 1) c5)
      have B5 := hU B5; have F5 := hU F5; have R5 := hU R5; have M5 := hU M4
      clear hown4 hfrm4 hmv4 F4 R4 KO M4 HM3 hf c1 HB2 HR2 HF2
      go_upto_region 9 with fail
      generalize w4.setCell ⟨g, o + 1, none⟩ (.slice A5 (k0 + 1) c5) = w5 at *
      clear f4 q4 B4
      go_wp2_with fail
      go_roundw
      case rel => exact ⟨m / 2, _, J, r, _, rfl, rfl, by rw [HJ2.out]; exact HF.out, HRL.out, fun x hx => HT.out x (by simp [hx]), by rw [HJ2.out]; exact HJ.out, by omega, B5.out, R5.out, F5.out, M5.out⟩
      case measure => simp [intOf]; omega
end Go.Proofs.YtgeengkdgdjcjaaGreat

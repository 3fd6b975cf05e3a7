/-
  HeadTx; GrowA: No condition.
-/
import Derived.Test.YtgeengkdgdjcjaaGreatReopen1
import Derived.Test.YtgeengkdgdjcjaaGreatBunch
import Derived.Test.YtgeengkdgdjcjaaGreatGrowB
namespace Go.Proofs.YtgeengkdgdjcjaaGreat
set_option maxHeartbeats 2000000
set_option maxRecDepth 100000
set_option linter.unusedSimpArgs false
open Go.RowKit
set_option linter.unusedVariables false
theorem implHeadText_any (n : Int) (d : HeadD) (w : World) : Calls Tryz.prog 186 #[.int .i64 n, .agg #[.int .i64 d.number, .int .i64 d.size, .string d.root, .int .i64 d.taken, .string d.takenRoot]] w fun e w' => e = .returned (.tuple #[.string (headText n d), .bool (headOk n d)]) ∧ Ext w w' := by
 have B0 := Blk.new w 33 #[.int .i64 d.number, .int .i64 d.size, .string d.root, .int .i64 d.taken, .string d.takenRoot]
 have he := Ext.new (Below.refl w.heap.size w) (.cells #[.int .i64 d.number, .int .i64 d.size, .string d.root, .int .i64 d.taken, .string d.takenRoot] 33)
 cases b : headOk n d
 · have Ht := hU (show headText n d = ⟨#[]⟩ by simp [headText, b])
   have He := hU he
   clear B0 he
   go_enter Tryz.func186, Tryz.ntmps186
   go_wp2_with fail
   refine (implHeadOk_any n d _).mono ?_
   rintro e w1 ⟨rfl, h1⟩
   have he := He.out.next h1
   rw [b]
   go_wp2_with fail
   go_ret2
   exact ⟨by rw [Ht.out]; rfl, he⟩
 · obtain ⟨z0, z1, z2, z3, z4, z5, z6, z7, z8, z9⟩ := headOk_bounds b
   obtain ⟨p1, hp1⟩ : ∃ p1, p1 = octB (d.number / 256) ++ octB d.number := ⟨_, rfl⟩
   obtain ⟨p2, hp2⟩ : ∃ p2, p2 = octB (d.size / 256) ++ octB d.size := ⟨_, rfl⟩
   obtain ⟨p3, hp3⟩ : ∃ p3, p3 = octB (d.taken / 256) ++ octB d.taken := ⟨_, rfl⟩
   have C1 := hU (show ∀ W, Calls Tryz.prog 154 #[.int .i64 d.number] W fun e w' => e = .returned (.string p1) ∧ Ext W w' from fun W => by rw [hp1]; exact pair_any _ W (by omega) (by omega))
   have C2 := hU (show ∀ W, Calls Tryz.prog 154 #[.int .i64 d.size] W fun e w' => e = .returned (.string p2) ∧ Ext W w' from fun W => by rw [hp2]; exact pair_any _ W (by omega) (by omega))
   have C3 := hU (show ∀ W, Calls Tryz.prog 154 #[.int .i64 d.taken] W fun e w' => e = .returned (.string p3) ∧ Ext W w' from fun W => by rw [hp3]; exact pair_any _ W (by omega) (by omega))
   have low : ∀ k : Int, 0 ≤ k → lowB k.toNat 2 = octB (k / 256) ++ octB k := fun k hk => by
    rw [lowB_two, Int.toNat_of_nonneg hk]
   have Ht := hU (show headText n d = p1 ++ p2 ++ d.root ++ p3 ++ d.takenRoot by rw [headText, if_pos b, headT, low _ z2, low _ z4, low _ z7, hp1, hp2, hp3])
   have y1 : p1.size = 2 := by rw [hp1]; rfl
   have y2 : p2.size = 2 := by rw [hp2]; rfl
   have y3 : p3.size = 2 := by rw [hp3]; rfl
   have n1 : ¬ 9223372036854775807 < p1.size + p2.size := by omega
   have n2 : ¬ 9223372036854775807 < p1.size + p2.size + d.root.size := by omega
   have n3 : ¬ 9223372036854775807 < p1.size + p2.size + d.root.size + p3.size := by omega
   have n4 : ¬ 9223372036854775807 < p1.size + p2.size + d.root.size + p3.size + d.takenRoot.size := by omega
   clear z0 z1 z2 z3 z4 z5 z6 z7 z8 z9 hp1 hp2 hp3 low y1 y2 y3
   go_enter Tryz.func186, Tryz.ntmps186
   go_wp2_with fail
   obtain ⟨g, hg⟩ : ∃ g, g = w.heap.size := ⟨_, rfl⟩
   rw [← hg] at B0
   rw [← hg]
   clear hg
   refine (implHeadOk_any n d _).mono ?_
   rintro e w1 ⟨rfl, h1⟩
   replace he := he.next h1
   replace B0 := B0.ext h1
   rw [b]
   clear h1
   go_upto_region 3 with fail
   refine wp_region_held_drew (S := fun w' => Blk w' g 33 #[.int .i64 d.number, .int .i64 d.size, .string d.root, .int .i64 d.taken, .string d.takenRoot] ∧ Ext w w') (by kernel_rfl) ⟨B0.drew, he.drew⟩ (fun hH => ?_)
   clear B0 he
   refine takeQ 0 (.pointer (some ⟨g, 0, none⟩)) (some 10) rfl rfl (by kernel_rfl) (Or.inl ⟨by rfl, ?yh1⟩) hH ?rh1
   case yh1 => intro w' hS'; go_simp; try with_reducible rfl
   try simp only [zA]
   refine takeQ 1 (.int .i64 d.number) (some 11) rfl rfl (by kernel_rfl) (Or.inl ⟨by rfl, ?yh2⟩) hH ?rh2
   case yh2 => intro w' hS'; have A0 := hS'.1; obtain ⟨r0, f0⟩ := A0.rules; go_simp; try with_reducible rfl
   try simp only [zA]
   refine takeQ 3 (.pointer (some ⟨g, 1, none⟩)) (some 13) rfl rfl (by kernel_rfl) (Or.inl ⟨by rfl, ?yh3⟩) hH ?rh3
   case yh3 => intro w' hS'; go_simp; try with_reducible rfl
   try simp only [zA]
   refine takeQ 4 (.int .i64 d.size) (some 14) rfl rfl (by kernel_rfl) (Or.inl ⟨by rfl, ?yh4⟩) hH ?rh4
   case yh4 => intro w' hS'; have A0 := hS'.1; obtain ⟨r0, f0⟩ := A0.rules; go_simp; try with_reducible rfl
   try simp only [zA]
   refine takeQ 7 (.pointer (some ⟨g, 2, none⟩)) (some 17) rfl rfl (by kernel_rfl) (Or.inl ⟨by rfl, ?yh5⟩) hH ?rh5
   case yh5 => intro w' hS'; go_simp; try with_reducible rfl
   try simp only [zA]
   refine takeQ 8 (.string d.root) (some 18) rfl rfl (by kernel_rfl) (Or.inl ⟨by rfl, ?yh6⟩) hH ?rh6
   case yh6 => intro w' hS'; have A0 := hS'.1; obtain ⟨r0, f0⟩ := A0.rules; go_simp; try with_reducible rfl
   try simp only [zA]
   refine takeQ 10 (.pointer (some ⟨g, 3, none⟩)) (some 20) rfl rfl (by kernel_rfl) (Or.inl ⟨by rfl, ?yh7⟩) hH ?rh7
   case yh7 => intro w' hS'; go_simp; try with_reducible rfl
   try simp only [zA]
   refine takeQ 11 (.int .i64 d.taken) (some 21) rfl rfl (by kernel_rfl) (Or.inl ⟨by rfl, ?yh8⟩) hH ?rh8
   case yh8 => intro w' hS'; have A0 := hS'.1; obtain ⟨r0, f0⟩ := A0.rules; go_simp; try with_reducible rfl
   try simp only [zA]
   refine takeQ 14 (.pointer (some ⟨g, 4, none⟩)) (some 24) rfl rfl (by kernel_rfl) (Or.inl ⟨by rfl, ?yh9⟩) hH ?rh9
   case yh9 => intro w' hS'; go_simp; try with_reducible rfl
   try simp only [zA]
   refine takeQ 15 (.string d.takenRoot) (some 25) rfl rfl (by kernel_rfl) (Or.inl ⟨by rfl, ?yh10⟩) hH ?rh10
   case yh10 => intro w' hS'; have A0 := hS'.1; obtain ⟨r0, f0⟩ := A0.rules; go_simp; try with_reducible rfl
   try simp only [zA]
   refine oneH 2 (oi := _) (some 12) (by kernel_rfl) rfl rfl rfl (fun K' hK => ?_)
   refine ⟨?_⟩
   rw [if_pos (by rfl)]
   go_simp
   refine (C1.out _).mono ?_
   rintro e w2 ⟨rfl, h1⟩
   refine hK.out _ _ ⟨_, rfl⟩ (⟨hH.1.ext h1, hH.2.next h1⟩) (fun hH2 => ?_)
   clear hK K' hH h1
   have hH := hH2
   clear hH2
   try simp only [zB]
   refine oneH 5 (oi := _) (some 15) (by kernel_rfl) rfl rfl rfl (fun K' hK => ?_)
   refine ⟨?_⟩
   rw [if_pos (by rfl)]
   go_simp
   refine (C2.out _).mono ?_
   rintro e w2 ⟨rfl, h1⟩
   refine hK.out _ _ ⟨_, rfl⟩ (⟨hH.1.ext h1, hH.2.next h1⟩) (fun hH2 => ?_)
   clear hK K' hH h1
   have hH := hH2
   clear hH2
   try simp only [zB]
   refine takeQ 6 (.string (p1 ++ p2)) (some 16) rfl rfl (by kernel_rfl) (Or.inl ⟨by rfl, ?yh11⟩) hH ?rh11
   case yh11 => intro w' hS'; have A0 := hS'.1; obtain ⟨r0, f0⟩ := A0.rules; go_simp; try with_reducible rfl
   try simp only [zA]
   refine takeQ 9 (.string (p1 ++ p2 ++ d.root)) (some 19) rfl rfl (by kernel_rfl) (Or.inl ⟨by rfl, ?yh12⟩) hH ?rh12
   case yh12 => intro w' hS'; have A0 := hS'.1; obtain ⟨r0, f0⟩ := A0.rules; go_simp; try with_reducible rfl
   try simp only [zA]
   refine oneH 12 (oi := _) (some 22) (by kernel_rfl) rfl rfl rfl (fun K' hK => ?_)
   refine ⟨?_⟩
   rw [if_pos (by rfl)]
   go_simp
   refine (C3.out _).mono ?_
   rintro e w2 ⟨rfl, h1⟩
   refine hK.out _ _ ⟨_, rfl⟩ (⟨hH.1.ext h1, hH.2.next h1⟩) (fun hH2 => ?_)
   clear hK K' hH h1
   have hH := hH2
   clear hH2
   try simp only [zB]
   refine takeQ 13 (.string (p1 ++ p2 ++ d.root ++ p3)) (some 23) rfl rfl (by kernel_rfl) (Or.inl ⟨by rfl, ?yh13⟩) hH ?rh13
   case yh13 => intro w' hS'; have A0 := hS'.1; obtain ⟨r0, f0⟩ := A0.rules; go_simp; try with_reducible rfl
   try simp only [zA]
   refine takeQ 16 (.string (p1 ++ p2 ++ d.root ++ p3 ++ d.takenRoot)) (some 26) rfl rfl (by kernel_rfl) (Or.inl ⟨by rfl, ?yh14⟩) hH ?rh14
   case yh14 => intro w' hS'; have A0 := hS'.1; obtain ⟨r0, f0⟩ := A0.rules; go_simp; try with_reducible rfl
   try simp only [zA]
   refine takeQ 17 (.string (p1 ++ p2 ++ d.root ++ p3 ++ d.takenRoot)) (some 4) rfl rfl (by kernel_rfl) (Or.inl ⟨by rfl, ?yh15⟩) hH ?rh15
   case yh15 => intro w' hS'; have A0 := hS'.1; obtain ⟨r0, f0⟩ := A0.rules; go_simp; try with_reducible rfl
   try simp only [zA]
   refine takeQ 18 (.bool true) (some 5) rfl rfl (by kernel_rfl) (Or.inl ⟨by rfl, ?yh16⟩) hH ?rh16
   case yh16 => intro w' hS'; go_simp; try with_reducible rfl
   try simp only [zA]
   have he := hH.2
   clear hH n1 n2 n3 n4
   refine wpAnyH_done (by kernel_rfl) ?_ _
   go_wp2_with fail
   go_ret2
   exact ⟨by rw [Ht.out]; rfl, he⟩
set_option maxHeartbeats 4000000
theorem set_same {cs : Array Value} {o : Nat} {v : Value} (h : cs[o]? = some v) : cs.setIfInBounds o v = cs := by
 obtain ⟨ho, rfl⟩ := Array.getElem?_eq_some_iff.1 h
 apply Array.ext_getElem?
 intro i
 rw [Array.getElem?_setIfInBounds]
 split
 · rename_i e; subst e; exact (Array.getElem?_eq_getElem ho).symm
 · rfl
theorem set_twice (cs : Array Value) (o : Nat) (a b a' b' : Value) : (((cs.setIfInBounds o a).setIfInBounds (o + 1) b).setIfInBounds o a').setIfInBounds (o + 1) b' = (cs.setIfInBounds o a').setIfInBounds (o + 1) b' := by
 rw [Array.setIfInBounds_comm (xs := cs.setIfInBounds o a) (i := o + 1) (j := o) _ _ (by omega), Array.setIfInBounds_setIfInBounds, Array.setIfInBounds_setIfInBounds]
theorem SlF.frm {α : Type} {p : Nat → Prop} {f : α → List Value} {size : Nat} {w w' : World} {A : Option Addr} {l : List α} {c : Nat} {X : Nat → Prop} (h : SlF p f size w A l c) (hf : Frm X w w') (hp : ∀ b, b < w.heap.size → p b → ¬ X b) : SlF p f size w' A l c := h.keep (hf.keep hp)
theorem SlF.here {α : Type} {p : Nat → Prop} {f : α → List Value} {size : Nat} {w : World} {A : Option Addr} {l : List α} {c : Nat} (h : SlF p f size w A l c) : SlF (fun b => p b ∧ b < w.heap.size) f size w A l c :=
 ⟨h.le, h.cap, h.reads, fun hn a e => ⟨h.low hn a e, by obtain ⟨b, off, e2, hb, _⟩ := h.reads.2 hn; rw [e] at e2; cases e2; exact hb⟩⟩
theorem growAll_any (wd : Int) (hwd : inR wd 1 32 = true) (B g T o n : Nat) (cs : Array Value) (v : Value) (s : List ByteArray) (A : Option Addr) (c : Nat) (l : List ByteArray) (w : World)
 (hB : Blk w g T cs) (hT : T ≠ 9) (h0 : cs[o]? = some (.int .i64 (n : Int))) (h1 : cs[o + 1]? = some v) (hown : RowT B w v s.reverse) (hBw : B ≤ w.heap.size)
 (hs : ∀ x ∈ s, WdT wd x) (hlen : s.length = pc n) (hn : n ≤ 50000) (hl : l.length ≤ 50000)
 (hr : SlF (fun b => b ≠ g ∧ v.ownBlock ≠ some b) sone 1 w A l c) (hls : ∀ x ∈ l, WdT wd x) :
 Calls Tryz.prog 248 #[.pointer (some ⟨g, o, none⟩), .int .i64 wd, .slice A l.length c] w fun e w' => ∃ m v', e = .returned (.int .i64 m) ∧ Blk w' g T ((cs.setIfInBounds o (.int .i64 ((n + l.length : Nat) : Int))).setIfInBounds (o + 1) v') ∧
  RowT B w' v' (growL (ndB wd) n s l).reverse ∧ Frm (fun b => b = g ∨ v.ownBlock = some b) w w' ∧ Moved v v' w.heap.size := by
 have ho : o + 1 < cs.size := (Array.getElem?_eq_some_iff.1 h1).1
 have HR := hU hr.here; have Hs := hU hs; have Hlen := hU hlen; have Hls := hU hls
 have HB := hU (show Blk w g T ((cs.setIfInBounds o (.int .i64 ((n + 0 : Nat) : Int))).setIfInBounds (o + 1) v) by
  rw [set_same (o := o + 1) (by rw [Array.getElem?_setIfInBounds_ne (by omega)]; exact h1), Nat.add_zero, set_same h0]; exact hB)
 have HO := hU hown
 clear hB h0 h1 hown hs hlen hr hls
 go_enter Tryz.func248, Tryz.ntmps248
 go_wp2_with fail
 go_loopw [7, 12] (fun mk i wr => ∃ (k : Nat) (mk' : Int) (vr : Value), k ≤ l.length ∧ i = .int .i64 (k : Int) ∧ mk = .int .i64 mk' ∧ Blk wr g T ((cs.setIfInBounds o (.int .i64 ((n + k : Nat) : Int))).setIfInBounds (o + 1) vr) ∧
  RowT B wr vr (growL (ndB wd) n s (l.take k)).reverse ∧ Frm (fun b => b = g ∨ v.ownBlock = some b) w wr ∧ Moved v vr w.heap.size) (fun _ i _ => l.length - (intOf i).toNat)
 case atStart => exact ⟨0, 0, v, Nat.zero_le _, rfl, rfl, HB.out, HO.out, Frm.refl _ w, Moved.refl _ _⟩
 case round =>
  clear HB HO
  obtain ⟨k, mk', vr, hk, rfl, rfl, hB, hO, hF, hM⟩ := hrel
  have HB := hU hB; have HO := hU hO; have HF := hU hF; have HM := hU hM
  clear hB hO hF hM
  by_cases hlt : k < l.length
  case neg =>
   obtain rfl : k = l.length := by omega
   go_wp2_with fail
   go_ret
   have := HO.out
   rw [List.take_length] at this
   exact ⟨_, vr, rfl, HB.out, this, HF.out, HM.out⟩
  have hr2 := HR.out.frm HF.out (fun b hb hp hx => by
   rcases hx with e | e
   · exact hp.1.1 e
   · exact hp.1.2 e)
  obtain ⟨b, off, hA, hb, hc⟩ := Reads.at_ hr2.reads (k := k) hlt
  obtain ⟨d, hd⟩ : ∃ d, d = l[k] := ⟨_, rfl⟩
  have hdl : l[k]? = some d := by rw [hd]; exact List.getElem?_eq_getElem hlt
  have c0 := hc 0 _ (flat_at _ 1 sone_length l k 0 _ hdl (by omega))
  rw [Nat.add_zero, Nat.mul_one] at c0
  have Hd := hU hd
  have hwl : WdT wd d := by rw [hd]; exact Hls.out _ (List.getElem_mem hlt)
  have HWL := hU hwl
  have C := grow_any wd hwd B g T o (n + k) _ vr (growL (ndB wd) n s (l.take k)) d wr HB.out hT (by rw [Array.getElem?_setIfInBounds_ne (by omega), Array.getElem?_setIfInBounds_self]; exact if_pos (by omega)) (by rw [Array.getElem?_setIfInBounds_self]; exact if_pos (by simpa using ho)) HO.out (Nat.le_trans hBw HF.out.size)
   (growL_all (ndB_wd hwd) _ _ _ Hs.out (fun x hx => Hls.out x (List.mem_of_mem_take hx))) hwl (by rw [growL_len (ndB wd) _ _ _ Hlen.out, List.length_take, Nat.min_eq_left hk]) (by omega)
  have CC := hU C
  subst hA
  clear hc hd hdl hr2 hwl C
  go_wp2_with fail
  refine CC.out.mono ?_
  rintro e w2 ⟨m2, v2, rfl, hB2, hR2, hF2, hM2⟩
  rw [set_twice] at hB2
  have HB2 := hU hB2; have HR2 := hU hR2
  have HF2 := hU (HF.out.next hF2 (fun y hy hx => by
   rcases hx with e | e
   · exact Or.inl e
   · rcases HM.out y e with h | h
     · exact Or.inr h
     · omega))
  have HM2 := hU (HM.out.trans hM2 HF.out.size)
  clear hB2 hR2 hF2 hM2 c0
  go_wp2_with fail
  go_roundw
  case rel =>
   refine ⟨k + 1, _, v2, by omega, by go_num, rfl, HB2.out, ?_, HF2.out, HM2.out⟩
   have := HR2.out
   rw [List.take_succ_eq_append_getElem hlt, growL_append, List.length_take, Nat.min_eq_left hk, growL_cons, growL_nil, ← Hd.out]
   exact this
  case measure => simp [intOf]; omega
theorem rootS_of {α : Type} (nd : α → α → α) (e : α) {ps : List α} {k : Nat} {t : α} (h : ps[k]? = some t) (hk : ps.length = k + 1) : rootS nd e ps.reverse = (ps.take k).reverse.foldl (fun r p => nd p r) t := by
 obtain ⟨hlt, rfl⟩ := List.getElem?_eq_some_iff.1 h
 have : ps = ps.take k ++ [ps[k]] := by
  conv => lhs; rw [← List.take_length (l := ps), hk, List.take_succ_eq_append_getElem hlt]
 conv => lhs; rw [this]
 rw [List.reverse_append, List.reverse_singleton, List.singleton_append, rootS]
theorem fold_next {α : Type} (nd : α → α → α) {ps : List α} {k : Nat} {t r : α} (h : ps[k]? = some t) : (ps.take (k + 1)).reverse.foldl (fun r p => nd p r) r = (ps.take k).reverse.foldl (fun r p => nd p r) (nd t r) := by
 obtain ⟨hlt, rfl⟩ := List.getElem?_eq_some_iff.1 h
 rw [List.take_succ_eq_append_getElem hlt, List.reverse_append, List.reverse_singleton, List.singleton_append, List.foldl_cons]
theorem root_any (wd : Int) (hwd : inR wd 1 32 = true) (z : Int) (A : Option Addr) (c : Nat) (ps : List ByteArray) (w : World) (hl : ps.length ≤ 100000) (hr : ReadsL w w.heap.size sone 1 A ps) (hs : ∀ x ∈ ps, WdT wd x) :
 Calls Tryz.prog 249 #[.agg #[.int .i64 z, .slice A ps.length c], .int .i64 wd] w fun e w' => ∃ m, e = .returned (.tuple #[.string (rootS (ndB wd) (emptyR wd) ps.reverse), .int .i64 m]) ∧ Ext w w' := by
 have K0 := hU (Blk.new w 31 #[.int .i64 z, .slice A ps.length c])
 have He := hU (Ext.new (Below.refl w.heap.size w) (.cells #[.int .i64 z, .slice A ps.length c] 31))
 obtain ⟨Fn, hFn⟩ : ∃ Fn, Fn = rootS (ndB wd) (emptyR wd) ps.reverse := ⟨_, rfl⟩
 have FF := hU hFn
 have HR := hU hr; have Hs := hU hs
 rw [← hFn]
 rcases Nat.eq_zero_or_pos ps.length with h0 | h0
 · obtain rfl := List.eq_nil_of_length_eq_zero h0
   have E := hU (show Fn = emptyR wd by rw [hFn]; rfl)
   have He := hU (show Ext w (w.alloc (.cells #[.int .i64 z, .slice A 0 c] 31)) from He.out)
   have K0 := hU (show Blk (w.alloc (.cells #[.int .i64 z, .slice A 0 c] 31)) w.heap.size 31 #[.int .i64 z, .slice A 0 c] from K0.out)
   show Calls Tryz.prog 249 #[.agg #[.int .i64 z, .slice A 0 c], .int .i64 wd] w _
   clear hFn hr hs h0 HR Hs hl
   go_enter Tryz.func249, Tryz.ntmps249
   go_wp2_with fail
   refine (emptyRoot_any wd _).mono ?_
   rintro e w1 ⟨rfl, h1⟩
   have he := He.out.next h1
   clear h1
   go_wp2_with fail
   go_ret2
   exact ⟨0, by rw [E.out]; rfl, he⟩
 obtain ⟨k, hk⟩ : ∃ k, ps.length = k + 1 := ⟨ps.length - 1, by omega⟩
 obtain ⟨b, off, rfl, hb, hc⟩ := hr.2 h0
 obtain ⟨t, ht⟩ : ∃ t, ps[k]? = some t := ⟨ps[k]'(by omega), List.getElem?_eq_getElem (by omega)⟩
 have hcell : ∀ (j : Nat) (x : ByteArray), ps[j]? = some x → w.cell? ⟨b, off + j, none⟩ = some (.string x) := fun j x hx => by
  have := hc (j * 1 + 0) (.string x) (by rw [flat_at sone 1 sone_length ps j 0 x hx (by omega)]; rfl)
  rwa [Nat.mul_one, Nat.add_zero] at this
 have c0 := hcell k t ht
 have HC := hU hcell
 have hst : WdT wd t := hs t (List.mem_of_getElem? ht)
 have ST := hU (show Fn = (ps.take k).reverse.foldl (fun r p => ndB wd p r) t by rw [hFn]; exact rootS_of _ _ ht hk)
 have HST := hU hst
 have c1 : (w.alloc (.cells #[.int .i64 z, .slice (some ⟨b, off, none⟩) ps.length c] 31)).cell? ⟨b, off + k, none⟩ = some (.string t) := (He.out.cell (p := ⟨b, off + k, none⟩) hb).trans c0
 obtain ⟨L, hL⟩ : ∃ L, L = ps.length := ⟨_, rfl⟩
 rw [← hL] at hl K0 He h0 hk c1
 rw [← hL]
 have hlL : L ≤ 9223372036854775807 := by omega
 have e1 : (L : Int) - 1 = (k : Int) := by omega
 have e2 : IntKind.i64.wrap (k : Int) = (k : Int) := IntWalk.i64_in _ (by omega)
 have hkL : k < L := by omega
 have hkL2 : k ≤ 100000 := by omega
 have e0 : ((L : Int) == 0) = false := beq_false_of_ne (by omega)
 have e0' : ¬ (L = 0) := by omega
 have HL := hU hL
 clear hFn hr hs hc hcell ht c0 hst hk hL
 go_enter Tryz.func249, Tryz.ntmps249
 go_wp2_with fail
 obtain ⟨g, hg⟩ : ∃ g, g = w.heap.size := ⟨_, rfl⟩
 rw [← hg] at K0
 rw [← hg]
 have Hg : w.heap.size ≤ g := by omega
 clear c1 hg
 go_loopw [7, 8] (fun rt i wr => ∃ (j : Nat) (r : ByteArray), j ≤ k ∧ i = .int .i64 ((j : Int) - 1) ∧ rt = .string r ∧ (ps.take j).reverse.foldl (fun r p => ndB wd p r) r = Fn ∧ WdT wd r ∧ Blk wr g 31 #[.int .i64 z, .slice (some ⟨b, off, none⟩) L c] ∧ Ext w wr) (fun _ i _ => (intOf i + 1).toNat)
 case atStart => exact ⟨k, t, Nat.le_refl _, by go_num, rfl, ST.out.symm, HST.out, K0.out, He.out⟩
 case round =>
  clear K0 He
  obtain ⟨j, r, hj, rfl, rfl, hF, hw, k0, he⟩ := hrel
  have HF := hU hF; have HW := hU hw
  obtain ⟨hcr, hfr⟩ := k0.rules
  have K0 := hU k0
  clear hF hw k0
  rcases Nat.eq_zero_or_pos j with j0 | j0
  · subst j0
    have E := hU (show r = Fn from HF.out)
    go_wp2_with fail
    go_ret2
    exact ⟨(k : Int), by rw [E.out]; rfl, he⟩
  obtain ⟨i, hi⟩ : ∃ i, j = i + 1 := ⟨j - 1, by omega⟩
  subst hi
  obtain ⟨x, hx⟩ : ∃ x, ps[i]? = some x := ⟨ps[i]'(by have := HL.out; omega), List.getElem?_eq_getElem (by have := HL.out; omega)⟩
  have c2 : wr.cell? ⟨b, off + i, none⟩ = some (.string x) := (he.cell (p := ⟨b, off + i, none⟩) hb).trans (HC.out i x hx)
  have hxs : WdT wd x := Hs.out x (List.mem_of_getElem? hx)
  have FN := hU (show (ps.take i).reverse.foldl (fun r p => ndB wd p r) (ndB wd x r) = Fn by rw [← fold_next _ hx]; exact HF.out)
  have hw2 := inR_true hwd
  have sx : x.size ≤ 1000 := by unfold WdT at hxs; omega
  have sr : r.size ≤ 1000 := by have := HW.out; unfold WdT at this; omega
  have HJ := hU (ndB_wd hwd x r hxs HW.out)
  have e3 : ((i + 1 : Nat) : Int) - 1 = (i : Int) := by omega
  have e4 : IntKind.i64.wrap (i : Int) = (i : Int) := IntWalk.i64_in _ (by omega)
  have hiL : i < L := by omega
  have d0 : decide ((0 : Int) ≤ (i : Int)) = true := decide_eq_true (by omega)
  rw [e3]
  clear hx hxs HF HW
  go_wp2_with fail
  refine (node_any wd x r _ sx sr).mono ?_
  rintro e w2 ⟨rfl, h1⟩
  replace K0 := hU (K0.out.ext h1); replace he := he.next h1
  clear h1 hcr hfr c2
  go_wp2_with fail
  go_roundw
  case rel => exact ⟨i, _, by omega, by go_num, rfl, FN.out, HJ.out, K0.out, he⟩
  case measure => simp [intOf]
end Go.Proofs.YtgeengkdgdjcjaaGreat

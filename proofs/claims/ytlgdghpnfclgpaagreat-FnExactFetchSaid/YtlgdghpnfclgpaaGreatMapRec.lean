/-
  GrowB; MapStr; MapRec: No condition.
-/
import Derived.Test.YtlgdghpnfclgpaaGreatBroker1
import Derived.Test.YtlgdghpnfclgpaaGreatNodeW
import Derived.Test.YtlgdghpnfclgpaaGreatHashTop
import Derived.Maps.OwnSet
import Derived.Test.YtlgdghpnfclgpaaGreatBunch
import Derived.Test.YtlgdghpnfclgpaaGreatHeadOps
import Derived.DeepKeys4
namespace Go.Proofs.YtlgdghpnfclgpaaGreat
set_option maxHeartbeats 4000000
set_option maxRecDepth 100000
set_option linter.unusedSimpArgs false
open Go.RowKit
set_option linter.unusedVariables false
def RowT (B : Nat) (w : World) (v : Value) (ts : List ByteArray) : Prop := w.ownsRow B 9 1 v ts.length (ts.flatMap sone)
theorem RowT.ext {B : Nat} {w w' : World} {v : Value} {ts : List ByteArray} (h : RowT B w v ts) (he : Ext w w') : RowT B w' v ts := ownsRow_ext h he
theorem RowT.of {B : Nat} {w : World} {v : Value} {n : Nat} {xs : List Value} {ts : List ByteArray} (h : w.ownsRow B 9 1 v n xs) (hn : n = ts.length) (hx : xs = ts.flatMap sone) : RowT B w v ts := by
 subst hn; subst hx; exact h
theorem RowT.nil (B : Nat) (w : World) : RowT B w (.slice none 0 0) [] := World.ownsRow_nil w B 9 1
theorem RowT.apart {B g T : Nat} {w : World} {v : Value} {ts : List ByteArray} {cs : Array Value} (h : RowT B w v ts) (hB : Blk w g T cs) (hT : T ≠ 9) : ∀ b, v.ownBlock = some b → b ≠ g := by
 intro b hb e
 subst e
 rcases h.2 with ⟨h1, _⟩ | ⟨g2, cap, cur, hv, hg, hh, _⟩
 · rw [h1] at hb; cases hb
 · rw [hv] at hb
   obtain rfl : g2 = b := by simpa [Value.ownBlock] using hb
   have := hB.symm.trans hh
   simp at this
   exact hT this.2
theorem RowT.lt {B : Nat} {w : World} {v : Value} {ts : List ByteArray} (h : RowT B w v ts) : ∀ b, v.ownBlock = some b → B ≤ b ∧ b < w.heap.size := fun b hb => World.ownsRow.lt h b hb
theorem RowT.setCell {B g T : Nat} {w : World} {v : Value} {ts : List ByteArray} {cs : Array Value} (h : RowT B w v ts) (hB : Blk w g T cs) (hT : T ≠ 9) (o : Nat) (u : Value) : RowT B (w.setCell ⟨g, o, none⟩ u) v ts := by
 have hk : Frm (fun b => b = g) w (w.setCell ⟨g, o, none⟩ u) := Frm.setCells (X := fun b => b = g) (Frm.refl _ w) (g := g) (fun _ => rfl) [u] o
 exact hk.own h (fun b hb => h.apart hB hT b hb)
theorem Frm.setCell1 {X : Nat → Prop} {w w1 : World} (h : Frm X w w1) {g : Nat} (hg : g < w.heap.size → X g) (o : Nat) (u : Value) : Frm X w (w1.setCell ⟨g, o, none⟩ u) := h.setCells hg [u] o
theorem RowT.cells {B : Nat} {w : World} {v : Value} {ts : List ByteArray} (h : RowT B w v ts) : ∃ A c, v = .slice A ts.length c ∧ ts.length ≤ c ∧ c ≤ maxLen ∧ (0 < ts.length → ∃ b off, A = some ⟨b, off, none⟩ ∧ b < w.heap.size ∧ ∀ (k : Nat) (t : ByteArray), ts[k]? = some t → w.cell? ⟨b, off + k, none⟩ = some (.string t)) := by
 have h0 := h
 rcases h0.2 with ⟨h1, h2⟩ | ⟨g, cap, cur, hv, hg, hh, hn, hm, hrest⟩
 · exact ⟨none, 0, by rw [h1, h2], by omega, Nat.zero_le _, fun h => absurd h (by omega)⟩
 · refine ⟨_, cap, hv, hn, hm, fun hpos => ?_⟩
   have hr := Reads.of_own (A := some ⟨g, 0, none⟩) (c := cap) (by rw [← hv]; exact h)
   obtain ⟨b, off, e, hb, hc⟩ := hr.2 hpos
   refine ⟨b, off, e, hb, fun k t hk => ?_⟩
   have := hc (k * 1 + 0) (.string t) (by rw [flat_at sone 1 sone_length ts k 0 t hk (by omega)]; rfl)
   rwa [Nat.mul_one, Nat.add_zero] at this
theorem grow_any (wd : Int) (hwd : inR wd 1 32 = true) (B g T o n : Nat) (cs : Array Value) (v : Value) (s : List ByteArray) (leaf : ByteArray) (w : World)
 (hB : Blk w g T cs) (hT : T ≠ 9) (h0 : cs[o]? = some (.int .i64 (n : Int))) (h1 : cs[o + 1]? = some v) (hown : RowT B w v s.reverse) (hBw : B ≤ w.heap.size)
 (hs : ∀ x ∈ s, WdT wd x) (hl : WdT wd leaf) (hlen : s.length = pc n) (hn : n ≤ 100000) :
 Calls Tryz.prog 239 #[.pointer (some ⟨g, o, none⟩), .int .i64 wd, .string leaf] w fun e w' => ∃ m v', e = .returned (.int .i64 m) ∧ Blk w' g T ((cs.setIfInBounds o (.int .i64 ((n + 1 : Nat) : Int))).setIfInBounds (o + 1) v') ∧
  RowT B w' v' (carryN (ndB wd) n s leaf).reverse ∧ Frm (fun b => b = g ∨ v.ownBlock = some b) w w' ∧ Moved v v' w.heap.size := by
 obtain ⟨i0, hi, hz0, hz1, hz2⟩ := info_parts info_string
 have hw2 := inR_true hwd
 have ho : o + 1 < cs.size := (Array.getElem?_eq_some_iff.1 h1).1
 have hpl := pc_le n
 obtain ⟨A, c, hv, hnc, hcm, _⟩ := hown.cells
 subst hv
 have hvm : (.slice A s.reverse.length c : Value) = .slice A s.length c := by rw [List.length_reverse]
 rw [List.length_reverse] at hnc
 rw [hvm] at h1 hown
 rw [hvm]
 clear hvm
 obtain ⟨hc, hf⟩ := hB.rules
 have c0 : w.cell? ⟨g, o, none⟩ = some (.int .i64 (n : Int)) := (hc o).trans h0
 have c1 : w.cell? ⟨g, o + 1, none⟩ = some (.slice A s.length c) := (hc (o + 1)).trans h1
 obtain ⟨V, hV⟩ : ∃ V, V = (.slice A s.length c : Value) := ⟨_, rfl⟩
 have HV := hU hV
 rw [← hV]
 have KO := hU (show w.ownsRow B 9 1 (.slice A s.length c) s.length (s.reverse.flatMap sone) by have := hown; unfold RowT at this; rwa [List.length_reverse] at this)
 have HB := hU hB
 have H0 := hU h0
 have Hs := hU hs
 have Hl := hU hl
 have hsl : s.length ≤ 100000 := by omega
 clear hc hown hB h0 h1 hV hs hl hpl
 have Hlen := hU hlen
 clear hlen
 obtain ⟨Fn, hFn⟩ : ∃ Fn, Fn = carryN (ndB wd) n s leaf := ⟨_, rfl⟩
 have FF := hU hFn
 rw [← hFn]
 clear hFn
 go_enter Tryz.func239, Tryz.ntmps239
 go_wp2_with (at_builtin; refine wpList_append_moved _ rfl _ _ 22 rfl B 9 i0 _ 1 16 Tryz.underlying22 hi hz0 hz1 hz2 rfl (by decide) _ _ _ rfl (KO.out.alloc _) ⟨w.heap.size, 0, none⟩ 1 1 [.string leaf] rfl rfl ?c1 ?c2 ?c3 ?c4 ?c5 ?_)
 case c1 => exact (Blk.new w 9 #[.string leaf]).adds
 case c2 => intro u hu; simp at hu; subst hu; rfl
 case c3 => unfold maxLen; omega
 case c4 => omega
 case c5 => simp; omega
 intro v1 w1 hown1 hfrm1 hmv1
 rw [← HV.out] at hfrm1 hmv1
 have hap := RowT.apart (RowT.of KO.out (by simp) rfl) HB.out hT
 rw [← HV.out] at hap
 have hgl := HB.out.lt
 have B1 : Blk w1 g T cs := hfrm1.blk (HB.out.alloc _) (fun e => hap g e rfl)
 have F1 : Frm (fun b => b = g ∨ V.ownBlock = some b) w w1 := (Frm.of_ext (Ext.new (Below.refl w.heap.size w) _)).next hfrm1 (fun b _ hy => Or.inr hy)
 have M1 : Moved V v1 w.heap.size := fun b hb => (hmv1 b hb).imp id (fun h => by omega)
 have R1 : RowT B w1 v1 (leaf :: s).reverse := RowT.of hown1 (by simp) (by simp [sone])
 obtain ⟨A1, c1', hv1, hnc1⟩ := ownsRow_form hown1
 subst hv1
 have q1 : w1.cell? ⟨g, o + 1, none⟩ = some (.slice A s.length c) := by rw [B1.cell, ← HB.out.cell]; exact c1
 obtain ⟨_, f1⟩ := B1.rules
 have B2 := B1.set_ (o + 1) (.slice A1 (s.length + 1) c1')
 have F2 := F1.setCell1 (g := g) (fun _ => Or.inl rfl) (o + 1) (.slice A1 (s.length + 1) c1')
 have R2 := R1.setCell B1 hT (o + 1) (.slice A1 (s.length + 1) c1')
 have B2 := hU B2; have F2 := hU F2; have R2 := hU R2; have M2 := hU M1
 clear hown1 hfrm1 hmv1 F1 R1 KO c0 c1 hf M1
 go_upto_region 3 with fail
 generalize w1.setCell ⟨g, o + 1, none⟩ (.slice A1 (s.length + 1) c1') = w2 at *
 obtain ⟨hc, hf⟩ := B2.out.rules
 have c0 : w2.cell? ⟨g, o, none⟩ = some (.int .i64 (n : Int)) := by rw [hc, Array.getElem?_setIfInBounds_ne (by omega)]; exact H0.out
 clear hc f1 q1 B1
 go_wp2_with fail
 have hpn : n ≤ 100000 := hn
 clear c0
 go_loopw [7, 8] (fun mk sz wr => ∃ (m : Nat) (mk' : Int) (p : ByteArray) (t : List ByteArray) (vr : Value), sz = .int .i64 (m : Int) ∧ mk = .int .i64 mk' ∧ carryN (ndB wd) m t p = Fn ∧ t.length = pc m ∧ (∀ x ∈ t, WdT wd x) ∧ WdT wd p ∧ m ≤ n ∧
  Blk wr g T (cs.setIfInBounds (o + 1) vr) ∧ RowT B wr vr (p :: t).reverse ∧ Frm (fun b => b = g ∨ V.ownBlock = some b) w wr ∧ Moved V vr w.heap.size) (fun _ sz _ => (intOf sz).toNat)
 case atStart => exact ⟨n, 0, leaf, s, _, rfl, rfl, FF.out.symm, Hlen.out, Hs.out, Hl.out, Nat.le_refl _, B2.out, R2.out, F2.out, M2.out⟩
 case round =>
  clear B2 R2 F2 M2 hf
  obtain ⟨m, mk', p, t, vr, rfl, rfl, hF, htl, ht, hp, hmn, hB, hR, hFr, hM⟩ := hrel
  have htl2 := pc_le m
  obtain ⟨hc, hf⟩ := hB.rules
  have c0 : wr.cell? ⟨g, o, none⟩ = some (.int .i64 (n : Int)) := by rw [hc, Array.getElem?_setIfInBounds_ne (by omega)]; exact H0.out
  have c1 : wr.cell? ⟨g, o + 1, none⟩ = some vr := by rw [hc, Array.getElem?_setIfInBounds_self]; exact if_pos ho
  rcases Nat.mod_two_eq_zero_or_one m with h2 | h2
  · have t1 : Int.tmod (m : Int) 2 = 0 := by rw [Int.tmod_eq_emod_of_nonneg (by omega)]; omega
    rw [carryN_even _ h2] at hF
    have B3 := (hB.set_ o (.int .i64 ((n : Int) + 1)))
    have F3 := hFr.setCell1 (g := g) (fun _ => Or.inl rfl) o (.int .i64 ((n : Int) + 1))
    have R3 := hR.setCell hB hT o (.int .i64 ((n : Int) + 1))
    have B3 := hU B3; have F3 := hU F3; have R3 := hU R3; have M3 := hU hM
    clear hc hB hR hFr hM c1
    go_upto_region 11 with fail
    generalize wr.setCell ⟨g, o, none⟩ (.int .i64 ((n : Int) + 1)) = w3 at *
    go_wp2_with fail
    go_ret
    refine ⟨mk', vr, rfl, ?_, by rw [← hF]; exact R3.out, F3.out, M3.out⟩
    have := B3.out
    rw [Array.setIfInBounds_comm _ _ (by omega)] at this
    exact this
  · match t, htl, ht, hF, hR, htl2 with
    | [], htl, _, _, _, _ => rw [(pc_odd h2).2] at htl; simp at htl
    | q :: r, htl, ht, hF, hR, htl2 =>
      have t1 : Int.tmod (m : Int) 2 = 1 := by rw [Int.tmod_eq_emod_of_nonneg (by omega)]; omega
      have t2 : Int.tdiv (m : Int) 2 = ((m / 2 : Nat) : Int) := by rw [Int.tdiv_eq_ediv_of_nonneg (by omega)]; rfl
      rw [carryN_odd _ h2] at hF
      have hrl : r.length = pc (m / 2) := by rw [(pc_odd h2).2] at htl; simpa using htl
      obtain ⟨A', c', hvr, hlc, hcm', hcl⟩ := hR.cells
      obtain ⟨b, off, rfl, hb, hcl⟩ := hcl (by simp)
      obtain ⟨L, hL⟩ : ∃ L, L = (p :: q :: r).reverse.length := ⟨_, rfl⟩
      have hL2 : L = r.length + 2 := by rw [hL]; simp
      have hp0 := hcl (r.length) q (by simp)
      have hp1 := hcl (r.length + 1) p (by simp)
      have ap := RowT.apart hR hB hT
      rw [← hL] at hvr hlc
      subst hvr
      have hw2 := inR_true hwd
      have sq : q.size ≤ 1000 := by have := ht q (by simp); unfold WdT at this; omega
      have sp : p.size ≤ 1000 := by have := hp; unfold WdT at this; omega
      have hJ : WdT wd (nodeT wd (q ++ p)) := ndB_wd hwd q p (ht q (by simp)) hp
      have e1 : (L : Int) - 2 = (r.length : Int) := by omega
      have e2 : (L : Int) - 1 = ((r.length + 1 : Nat) : Int) := by omega
      have hrs : r.length ≤ 100000 := by simp at htl; omega
      have e3 : IntKind.i64.wrap (r.length : Int) = (r.length : Int) := IntWalk.i64_in _ (by omega)
      have e4 : IntKind.i64.wrap ((r.length + 1 : Nat) : Int) = ((r.length + 1 : Nat) : Int) := IntWalk.i64_in _ (by omega)
      have HR := hU hR; have HB := hU hB; have HF := hU hF; have HT := hU ht; have HP := hU hp; have HFr := hU hFr; have HM := hU hM; have HJ := hU hJ; have AP := hU ap; have HL := hU hL
      have HRL := hU hrl
      obtain ⟨k1, hk1⟩ : ∃ k1, k1 = r.length + 1 := ⟨_, rfl⟩
      rw [← hk1] at hp1 e2 e4
      obtain ⟨k0, hk0⟩ : ∃ k0, k0 = r.length := ⟨_, rfl⟩
      have hlt0 : k0 < L := by omega
      have hlt1 : k1 < L := by omega
      have K0 := hU hk0
      rw [← hk0] at hp0 e1 e3 hrs
      clear hk1 hR hB hF ht hp hFr hM hJ ap hL hL2 hcl hc hk0 htl htl2 hrl
      go_wp2_with fail
      go_still_tail 17, (by kernel_rfl)
      change wpList _ _ _ _ _ wr.drew
      generalize hwd2 : wr.drew = w2
      have HB2 : Hid (Blk w2 g T (cs.setIfInBounds (o + 1) (.slice (some ⟨b, off, none⟩) L c'))) := hU (by rw [← hwd2]; exact HB.out)
      have HR2 : Hid (RowT B w2 (.slice (some ⟨b, off, none⟩) L c') (p :: q :: r).reverse) := hU (by rw [← hwd2]; exact HR.out)
      have HF2 : Hid (Frm (fun b => b = g ∨ V.ownBlock = some b) w w2) := hU (by rw [← hwd2]; exact HFr.out.drew)
      clear hwd2 HB HR HFr c0 c1 hf hp0 hp1
      go_wp2_with fail
      refine (node_any wd q p _ sq sp).mono ?_
      rintro e w3 ⟨rfl, h1⟩
      replace HB2 := hU (HB2.out.ext h1); replace HR2 := hU (HR2.out.ext h1); replace HF2 := hU (HF2.out.ext h1)
      clear h1
      obtain ⟨J, hJ⟩ : ∃ J, J = nodeT wd (q ++ p) := ⟨_, rfl⟩
      rw [← hJ]
      have HJ2 := hU hJ
      clear hJ
      obtain ⟨hc, hf⟩ := HB2.out.rules
      have c1 : w3.cell? ⟨g, o + 1, none⟩ = some (.slice (some ⟨b, off, none⟩) L c') := by rw [hc, Array.getElem?_setIfInBounds_self]; exact if_pos ho
      clear hc
      have KO := hU (show w3.ownsRow B 9 1 (.slice (some ⟨b, off, none⟩) k0 c') k0 (r.reverse.flatMap sone) by
       have h1 := HR2.out
       unfold RowT at h1
       rw [← HL.out] at h1
       have h2 := ownsRow_take h1 (m := k0) (by omega)
       rw [Nat.mul_one] at h2
       have h3 : ((p :: q :: r).reverse.flatMap sone).take k0 = r.reverse.flatMap sone := by
        rw [List.reverse_cons, List.reverse_cons, List.append_assoc, List.flatMap_append, List.take_append_of_le_length (by rw [flat_len sone 1 sone_length, List.length_reverse, K0.out]; omega), List.take_of_length_le (by rw [flat_len sone 1 sone_length, List.length_reverse, K0.out]; omega)]
       rwa [h3] at h2)
      have hlc2 : k0 ≤ c' := by omega
      have hcm2 : c' ≤ 9223372036854775807 := by unfold maxLen at hcm'; omega
      have hBw3 : B ≤ w3.heap.size := Nat.le_trans hBw HF2.out.size
      go_wp2_with (at_builtin; refine wpList_append_moved _ rfl _ _ 22 rfl B 9 i0 _ 1 16 Tryz.underlying22 hi hz0 hz1 hz2 rfl (by decide) _ _ _ rfl (KO.out.alloc _) ⟨w3.heap.size, 0, none⟩ 1 1 [.string J] rfl rfl ?d1 ?d2 ?d3 ?d4 ?d5 ?_)
      case d1 => exact (Blk.new w3 9 #[.string J]).adds
      case d2 => intro u hu; simp at hu; subst hu; rfl
      case d3 => unfold maxLen; omega
      case d4 => omega
      case d5 => simp; omega
      intro v4 w4 hown4 hfrm4 hmv4
      have HM3 : ∀ x, (.slice (some ⟨b, off, none⟩) k0 c' : Value).ownBlock = some x → V.ownBlock = some x ∨ w.heap.size ≤ x := fun x hx => HM.out x hx
      have B4 : Blk w4 g T (cs.setIfInBounds (o + 1) (.slice (some ⟨b, off, none⟩) L c')) := hfrm4.blk (HB2.out.alloc _) (fun e => AP.out g e rfl)
      have F4 : Frm (fun b => b = g ∨ V.ownBlock = some b) w w4 := (HF2.out.ext (Ext.new (Below.refl w3.heap.size w3) _)).next hfrm4 (fun y hy hx => by
       rcases HM3 y hx with h | h
       · exact Or.inr h
       · omega)
      have M4 : Moved V v4 w.heap.size := fun x hx => by
       rcases hmv4 x hx with h | h
       · exact HM3 x h
       · have := HF2.out.size; exact Or.inr (by omega)
      have R4 : RowT B w4 v4 (J :: r).reverse := RowT.of hown4 (by simp [K0.out]) (by simp [sone])
      obtain ⟨A5, c5, hv5, hnc5⟩ := ownsRow_form hown4
      subst hv5
      have q4 : w4.cell? ⟨g, o + 1, none⟩ = some (.slice (some ⟨b, off, none⟩) L c') := by rw [B4.cell, Array.getElem?_setIfInBounds_self]; exact if_pos ho
      obtain ⟨_, f4⟩ := B4.rules
      have B5 := B4.set_ (o + 1) (.slice A5 (k0 + 1) c5)
      rw [Array.setIfInBounds_setIfInBounds] at B5
      have F5 := F4.setCell1 (g := g) (fun _ => Or.inl rfl) (o + 1) (.slice A5 (k0 + 1) c5)
      have R5 := R4.setCell B4 hT (o + 1) (.slice A5 (k0 + 1) c5)
      have B5 := hU B5; have F5 := hU F5; have R5 := hU R5; have M5 := hU M4
      clear hown4 hfrm4 hmv4 F4 R4 KO M4 HM3 hf c1 HB2 HR2 HF2
      go_upto_region 9 with fail
      generalize w4.setCell ⟨g, o + 1, none⟩ (.slice A5 (k0 + 1) c5) = w5 at *
      clear f4 q4 B4
      go_wp2_with fail
      go_roundw
      case rel => exact ⟨m / 2, _, J, r, _, rfl, rfl, by rw [HJ2.out]; exact HF.out, HRL.out, fun x hx => HT.out x (by simp [hx]), by rw [HJ2.out]; exact HJ.out, by omega, B5.out, R5.out, F5.out, M5.out⟩
      case measure => simp [intOf]; omega
end Go.Proofs.YtlgdghpnfclgpaaGreat
namespace Go.Proofs.YtlgdghpnfclgpaaGreat
set_option linter.unusedSimpArgs false
open Go.RowKit Go.WideMaps Go.Maps
set_option linter.unusedVariables false
theorem mapKeyed : Keyed Tryz.prog 9 := string_keyed Tryz.underlying9
theorem mapZero (w : World) : (zeroValue 3).run Tryz.prog w = .ok (.int .i64 0) w := by kernel_rfl
def skey (s : ByteArray) : Lit := .string s.data.toList
theorem skey_inj {s t : ByteArray} (h : skey s = skey t) : s = t := by
 simp only [skey, Lit.string.injEq] at h
 exact ByteArray.ext (Array.toList_inj.1 h)
def MapAt (w : World) (B n : Nat) (f : ByteArray → Option Nat) : Prop :=
 ∃ D : DataW Unit, w.ownsMap Tryz.prog 9 (plainElem Tryz.prog 3) B n D ∧ ∀ s, Maps.has D (skey s) = (f s).isSome ∧ D.atKey (skey s) (.lit (.int .i64 0)) = .lit (.int .i64 (((f s).getD 0 : Nat) : Int))
theorem MapAt.made (w : World) : MapAt (w.alloc (.map #[] 0)) w.heap.size 0 (fun _ => none) :=
 ⟨.map [], World.ownsMap_made _ _ _ _, fun s => ⟨rfl, rfl⟩⟩
theorem MapAt.lt {w : World} {B n : Nat} {f : ByteArray → Option Nat} (h : MapAt w B n f) : B < w.heap.size := by obtain ⟨D, h, _⟩ := h; exact h.lt
theorem ownsMap_ext {H : Type} {P : Program} {k : TypeId} {R : Value → Option (DataW H × List MemPlace)} {w w' : World} {B n : Nat} {D : DataW H} (h : w.ownsMap P k R B n D) (he : Ext w w') : w'.ownsMap P k R B n D := by
 have hlt := h.lt
 obtain ⟨es, clock, hb, r⟩ := h
 exact ⟨es, clock, (he.block B hlt).trans hb, r⟩
theorem MapAt.ext {w w' : World} {B n : Nat} {f : ByteArray → Option Nat} (h : MapAt w B n f) (he : Ext w w') : MapAt w' B n f := by
 obtain ⟨D, h, k⟩ := h
 exact ⟨D, ownsMap_ext h he, k⟩
theorem MapAt.mono {w : World} {B n m : Nat} {f : ByteArray → Option Nat} (h : MapAt w B n f) (hm : n ≤ m) : MapAt w B m f := by
 obtain ⟨D, h, k⟩ := h
 exact ⟨D, h.mono hm, k⟩
theorem MapAt.look {w : World} {B n : Nat} {f : ByteArray → Option Nat} (h : MapAt w B n f) (s : ByteArray) (hs : s.size ≤ maxLen) : (Instr.lookup 191 (.map (some B)) (.string s) true).run Tryz.prog w = .ok (.tuple #[.int .i64 (((f s).getD 0 : Nat) : Int), .bool (f s).isSome]) w := by
 obtain ⟨D, h, k⟩ := h
 obtain ⟨v, ps, hrun, hv⟩ := h.look_ok mapKeyed Tryz.underlying191 (mapZero w) (plainElem_int Tryz.underlying3 (by decide)) (keyOf_string_mk Tryz.underlying9 hs)
 obtain ⟨c, rfl, hc, _⟩ := plainElem_int_inv Tryz.underlying3 hv
 have h2 := (k s).2
 have h1 := (k s).1
 simp only [Prod.mk.injEq] at hc
 rw [show (Lit.string s.data.toList) = skey s from rfl] at hc hrun
 rw [hc.1] at h2
 simp only [DataW.lit.injEq, Lit.int.injEq, true_and] at h2
 rw [hrun, h1, h2]
theorem MapAt.look1 {w : World} {B n : Nat} {f : ByteArray → Option Nat} (h : MapAt w B n f) (s : ByteArray) (hs : s.size ≤ maxLen) : (Instr.lookup 191 (.map (some B)) (.string s) false).run Tryz.prog w = .ok (.int .i64 (((f s).getD 0 : Nat) : Int)) w := by
 obtain ⟨D, h, k⟩ := h
 obtain ⟨c, hrun, hc, _⟩ := h.lookup_int mapKeyed Tryz.underlying191 Tryz.underlying3 (mapZero w) (keyOf_string_mk Tryz.underlying9 hs)
 have h2 := (k s).2
 rw [show (Lit.string s.data.toList) = skey s from rfl] at hc
 rw [hc] at h2
 simp only [DataW.lit.injEq, Lit.int.injEq, true_and] at h2
 rw [hrun, h2]
def fput (f : ByteArray → Option Nat) (s : ByteArray) (m : Nat) : ByteArray → Option Nat := fun t => if t = s then some m else f t
theorem MapAt.put {w' : World} {B n m : Nat} {f : ByteArray → Option Nat} {s : ByteArray} {D : DataW Unit} (hD : ∀ s, Maps.has D (skey s) = (f s).isSome ∧ D.atKey (skey s) (.lit (.int .i64 0)) = .lit (.int .i64 (((f s).getD 0 : Nat) : Int)))
 (hm : IsMap D) (h' : w'.ownsMap Tryz.prog 9 (plainElem Tryz.prog 3) B (n + 1) (D.put (skey s) (.lit (.int .i64 (m : Int))))) : MapAt w' B (n + 1) (fput f s m) := by
 refine ⟨_, h', fun t => ?_⟩
 unfold fput
 by_cases e : t = s
 · subst e
   simp only [if_true, Option.isSome_some, Option.getD_some]
   exact ⟨has_put_same hm (show WideAt.IsKeyLit (.string _) from trivial) _, atKey_put_same hm (show WideAt.IsKeyLit (.string _) from trivial) _ _⟩
 · have hne : skey t ≠ skey s := fun h => e (skey_inj h)
   rw [if_neg e, has_put_other hne, atKey_put_other hne]
   exact hD t
theorem wpList_store_at (w : World) {ops : Array Oper} {rest : List Oper} {o : Oper} {a : Act} {Q : Exit → Act → World → Prop} (hg : o.guard = none) (m x v : Operand) (hop : o.op = Op.mapUpdate 191 m x v) (B n q : Nat) (s : ByteArray) (f : ByteArray → Option Nat)
 (hm : a.eval m = .map (some B)) (hown : MapAt w B n f) (hn : n < maxLen) (hx : a.eval x = .string s) (hv : a.eval v = .int .i64 (q : Int)) (hs : s.size ≤ maxLen) (hq : q ≤ 1099511627776)
 (hK : ∀ w', MapAt w' B (n + 1) (fput f s q) → w.grownBy w' (some B) → wpList Tryz.prog ops Q rest (a.put o.dst undef) w') : wpList Tryz.prog ops Q (o :: rest) a w := by
 obtain ⟨D, h, k⟩ := hown
 have wf : (Lit.int .i64 (q : Int)).wf = true := WalkArith.wf_i64 (by omega)
 exact wpList_mapUpdate_own w hg m x v 191 hop 9 3 mapKeyed Tryz.underlying191 _ B n D hm h hn _ _ _ hx hv (keyOf_string_mk Tryz.underlying9 hs) _ [] (plainElem_int Tryz.underlying3 wf) (fun w' h1 h2 => hK w' (MapAt.put k h.isMap h1) h2)
theorem Blk.grown {w w' : World} {g : Nat} {t : TypeId} {cs : Array Value} {row : Option Nat} (h : Blk w g t cs) (hg : w.grownBy w' row) (hne : some g ≠ row) : Blk w' g t cs := (hg.block g h.lt hne).trans h
theorem Ext.mapGrown {W w w' : World} {B : Nat} (he : Ext W w) (hg : w.grownBy w' (some B)) (hB : W.heap.size ≤ B) : Ext W w' := Below.grown he hg he.size (fun k hk => by cases hk; exact hB)
set_option maxRecDepth 100000
theorem recKeyed : Keyed Tryz.prog 77 := Keyed.of_law (deep_law_laid (by kernel_rfl) (m := 2) (by omega) (of_decide_eq_true (by kernel_rfl)) (by kernel_rfl) (by rw [Tryz.underlying77]))
def rval (d : ReceiptD) : Value := .agg #[.string d.reader, .string d.topic, .int .i64 d.index]
theorem rval_inj {a b : ReceiptD} (h : rval a = rval b) : a = b := by
 obtain ⟨a1, a2, a3⟩ := a
 obtain ⟨b1, b2, b3⟩ := b
 simpa [rval] using h
theorem rec_key (d : ReceiptD) (hd : d.Ok) : ∃ l, keyOf Tryz.prog 77 (rval d) = some l := by
 obtain ⟨h1, h2, h3⟩ := hd
 obtain ⟨m, hm⟩ : ∃ m, Tryz.prog.types.size = m + 1 := ⟨_, rfl⟩
 have k1 : Tryz.prog.keyType 77 = true := by kernel_rfl
 have k2 : Tryz.prog.cellsOf 77 = 3 := by kernel_rfl
 have k3 : Tryz.prog.cellsOf 3 = 1 := by kernel_rfl
 have k4 : Tryz.prog.cellsOf 9 = 1 := by kernel_rfl
 have k5 : (rval d).formed Tryz.prog 77 = true := by simp [rval, Value.formed, Tryz.underlying77, k2]
 unfold keyOf
 rw [Tryz.underlying77]
 simp only [k1, k5, Bool.and_self, if_true, hm]
 simp [Program.keyLits, Tryz.underlying77, Tryz.underlying3, Tryz.underlying9, k2, k3, k4, rval, Value.cells, h1, h2, h3]
noncomputable def rkey (d : ReceiptD) : Lit := (keyOf Tryz.prog 77 (rval d)).getD (.bool false)
theorem rkey_of (d : ReceiptD) (hd : d.Ok) : keyOf Tryz.prog 77 (rval d) = some (rkey d) := by
 obtain ⟨l, h⟩ := rec_key d hd
 rw [rkey, h]; rfl
theorem rkey_lit (d : ReceiptD) (hd : d.Ok) : WideAt.IsKeyLit (rkey d) := recKeyed.key (rkey_of d hd)
theorem rkey_inj {a b : ReceiptD} (ha : a.Ok) (hb : b.Ok) (h : rkey a = rkey b) : a = b :=
 rval_inj (recKeyed.inj (rkey_of a ha) (by rw [h]; exact rkey_of b hb))
def MapAtR (w : World) (B n : Nat) (f : ReceiptD → Option Nat) : Prop :=
 ∃ D : DataW Unit, w.ownsMap Tryz.prog 77 (plainElem Tryz.prog 3) B n D ∧ ∀ s : ReceiptD, s.Ok → Maps.has D (rkey s) = (f s).isSome ∧ D.atKey (rkey s) (.lit (.int .i64 0)) = .lit (.int .i64 (((f s).getD 0 : Nat) : Int))
theorem MapAtR.made (w : World) : MapAtR (w.alloc (.map #[] 0)) w.heap.size 0 (fun _ => none) :=
 ⟨.map [], World.ownsMap_made _ _ _ _, fun s _ => ⟨rfl, rfl⟩⟩
theorem MapAtR.lt {w : World} {B n : Nat} {f : ReceiptD → Option Nat} (h : MapAtR w B n f) : B < w.heap.size := by obtain ⟨D, h, _⟩ := h; exact h.lt
theorem MapAtR.ext {w w' : World} {B n : Nat} {f : ReceiptD → Option Nat} (h : MapAtR w B n f) (he : Ext w w') : MapAtR w' B n f := by
 obtain ⟨D, h, k⟩ := h
 exact ⟨D, ownsMap_ext h he, k⟩
theorem MapAtR.mono {w : World} {B n m : Nat} {f : ReceiptD → Option Nat} (h : MapAtR w B n f) (hm : n ≤ m) : MapAtR w B m f := by
 obtain ⟨D, h, k⟩ := h
 exact ⟨D, h.mono hm, k⟩
theorem MapAtR.look1 {w : World} {B n : Nat} {f : ReceiptD → Option Nat} (h : MapAtR w B n f) (s : ReceiptD) (hs : s.Ok) : (Instr.lookup 192 (.map (some B)) (.agg #[.string s.reader, .string s.topic, .int .i64 s.index]) false).run Tryz.prog w = .ok (.int .i64 (((f s).getD 0 : Nat) : Int)) w := by
 obtain ⟨D, h, k⟩ := h
 obtain ⟨c, hrun, hc, _⟩ := h.lookup_int recKeyed Tryz.underlying192 Tryz.underlying3 (mapZero w) (rkey_of s hs)
 have h2 := (k s hs).2
 rw [hc] at h2
 simp only [DataW.lit.injEq, Lit.int.injEq, true_and] at h2
 unfold rval at hrun
 rw [hrun, h2]
def rput (f : ReceiptD → Option Nat) (s : ReceiptD) (m : Nat) : ReceiptD → Option Nat := fun t => if t.eqb s then some m else f t
theorem MapAtR.put {w' : World} {B n m : Nat} {f : ReceiptD → Option Nat} {s : ReceiptD} (hs : s.Ok) {D : DataW Unit} (hD : ∀ s : ReceiptD, s.Ok → Maps.has D (rkey s) = (f s).isSome ∧ D.atKey (rkey s) (.lit (.int .i64 0)) = .lit (.int .i64 (((f s).getD 0 : Nat) : Int)))
 (hm : IsMap D) (h' : w'.ownsMap Tryz.prog 77 (plainElem Tryz.prog 3) B (n + 1) (D.put (rkey s) (.lit (.int .i64 (m : Int))))) : MapAtR w' B (n + 1) (rput f s m) := by
 refine ⟨_, h', fun t ht => ?_⟩
 unfold rput
 cases e : t.eqb s
 · have hne : rkey t ≠ rkey s := fun h => by rw [rkey_inj ht hs h, ReceiptD.eqb_self] at e; cases e
   simp only [Bool.false_eq_true, if_false]
   rw [has_put_other hne, atKey_put_other hne]
   exact hD t ht
 · obtain rfl := (ReceiptD.eqb_iff t s).1 e
   simp only [if_true, Option.isSome_some, Option.getD_some]
   exact ⟨has_put_same hm (rkey_lit t hs) _, atKey_put_same hm (rkey_lit t hs) _ _⟩
end Go.Proofs.YtlgdghpnfclgpaaGreat

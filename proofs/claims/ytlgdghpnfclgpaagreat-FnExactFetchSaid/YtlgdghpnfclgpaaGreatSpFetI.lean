/-
  SpFetI: No condition.
-/
import Derived.Test.YtlgdghpnfclgpaaGreatInclS
import Derived.Test.YtlgdghpnfclgpaaGreatFetchI
namespace Go.Proofs.YtlgdghpnfclgpaaGreat
set_option maxHeartbeats 4000000
set_option maxRecDepth 100000
set_option linter.unusedSimpArgs false
open Go.RowKit
set_option linter.unusedVariables false
theorem run_top {P : Program} {t : TypeId} (A : Option Addr) (len c m size : Nat) (ht : P.underlying t = some (.slice (P.elem t))) (hs : ∀ W : World, (sizeOf (P.elem t)).run P W = .ok size W) (hm : m ≤ c) (W : World) :
 (Instr.slice t (.slice A len c) none (some (.int .i64 (m : Int))) none).run P W = .ok (.slice A m c) W := by
 rw [run_slice_h (P := P) W t A len c ht .i64 (m : Int) (by omega) (by omega), hs]
 simp [Result.andThen, sliced]
 intro _
 cases A with
 | none => rfl
 | some a => simp [Addr.add]
theorem slf_takeA {w : World} {A : Option Addr} {c : Nat} {l : List EntryD} (h : SlF AnyB EntryD.cells 5 w A l c) (k : Nat) (hk : k ≤ l.length) : SlF AnyB EntryD.cells 5 w A (l.take k) c :=
 ⟨by have := h.le; rw [List.length_take]; omega, h.cap, reads_take (f := EntryD.cells) (size := 5) EntryD.cells_length h.reads k hk, fun _ _ _ => trivial⟩
theorem ftA_bad {b : BrokerD} {t : ByteArray} {ix n : Int} {c : Nat} {w w' : World} {e : Ending} {v : Value} (h : lfCode b (ftIx b t ix) n = c) (h0 : c ≠ 0) (he : e = .returned (.tuple #[.agg #[.string ⟨#[]⟩, .int .i64 0, .int .i64 0, .string ⟨#[]⟩, .string ⟨#[]⟩], .int .i64 0, v, .int .i64 (c : Int)])) (ho : RowT w.heap.size w' v []) (hx : Ext w w') : FtAns (ftAE b t ix n) (ftAL b t ix n) (lfAP b (ftIx b t ix) n) (lfCode b (ftIx b t ix) n) w e w' := by
 have hz := lfA_bad (k := ftIx b t ix) (n := n) (b := b) (by omega)
 have h1 : ftAL b t ix n = 0 := by rw [ftAL, if_neg (by omega)]
 rw [ftAE, hz.1, hz.2, h1, h]
 exact ⟨v, zE, rfl, he, ho, hx⟩
theorem specLeavesOk_good (n : Int) (A : Option Addr) (c : Nat) (l : List ByteArray) (w : World) (hr : ReadsL w w.heap.size sone 1 A l) (hl : l.length ≤ 512) (hn : inR n 1 32 = true) (hs : ∀ s ∈ l, s.size = n.toNat) :
 Calls Tryz.prog 217 #[.int .i64 n, .slice A l.length c] w fun e w' => e = .returned (.bool true) ∧ Ext w w' := by
 have h2 := inR_true hn
 have E : (hashes n l && inR n 1 32) = true := by
  rw [hn, Bool.and_true, hashes, List.all_eq_true]
  intro s h
  rw [beq_iff_eq, hs s h]; omega
 have H := hU (l04Hashes_any n A c l w hr (by omega))
 rw [E] at H
 have hl2 : (l.length : Int) ≤ 512 := by omega
 clear hr hs E h2
 go_enter Tryz.func217, Tryz.ntmps217
 go_wp2_with fail
 refine H.out.mono ?_
 rintro e w1 ⟨rfl, h1⟩
 go_wp2_with fail
 go_ret
 exact ⟨rfl, h1⟩
theorem specInclusion_good (wd : Int) (hwd : inR wd 1 32 = true) (m : Nat) (l : List ByteArray) (A : Option Addr) (c k : Nat) (w : World) (hm : l.length ≤ m) (h5 : m ≤ 512) (hk : k < l.length) (hr : SlF AnyB sone 1 w A l c) (hs : ∀ s ∈ l, s.size = wd.toNat) :
 Calls Tryz.prog 173 #[.int .i64 wd, .slice A l.length c, .int .i64 (k : Int)] w fun e w' => ∃ v, e = .returned (.tuple #[v, .bool true]) ∧ RowT w.heap.size w' v (inclN wd m l k) ∧ Ext w w' := by
 have H1 := hU (specLeavesOk_good wd A c l w hr.reads (by omega) hwd hs)
 have H2 := hU (fun (W : World) (h : Ext w W) => l05Inclusion_any wd hwd m l A c k W hm h5 hk (hr.ext h) hs)
 obtain ⟨P, hP⟩ : ∃ P, P = inclN wd m l k := ⟨_, rfl⟩
 rw [← hP] at H2
 rw [← hP]
 obtain ⟨L, hL⟩ : ∃ L, L = l.length := ⟨_, rfl⟩
 rw [← hL] at H1 H2 hm hk
 rw [← hL]
 have e1 : (L : Int) - 1 = ((L - 1 : Nat) : Int) := by omega
 have e2 : IntKind.i64.wrap ((L - 1 : Nat) : Int) = ((L - 1 : Nat) : Int) := IntWalk.i64_in _ (by omega)
 have hi : inR (k : Int) 0 ((L - 1 : Nat) : Int) = true := by simp [inR]; omega
 have HI := hU hi
 clear hr hs hP hL hi
 go_enter Tryz.func173, Tryz.ntmps173
 go_wp2_with fail
 refine H1.out.mono ?_
 rintro e w1 ⟨rfl, h1⟩
 have HX := hU h1
 clear h1 H1
 go_wp2_with fail
 refine (l01In_any _ _ _ _).mono ?_
 rintro e w2 ⟨rfl, rfl⟩
 rw [HI.out]
 go_wp2_with fail
 refine (H2.out _ HX.out).mono ?_
 rintro e w3 ⟨v, rfl, hr, h1⟩
 have HR := hU (show RowT w.heap.size w3 v P from ownsRow_base hr HX.out.size)
 have HE := hU (HX.out.next h1)
 clear hr h1 H2
 go_wp2_with fail
 go_ret2
 exact ⟨_, rfl, HR.out, HE.out⟩
theorem l12Leaf_any (b : BrokerD) (A0 : Option Addr) (a0 : Nat) (A1 : Option Addr) (a1 : Nat) (A2 : Option Addr) (a2 : Nat) (A3 : Option Addr) (a3 : Nat) (A4 : Option Addr) (a4 : Nat) (k n : Int) (w : World) (he : SlF AnyB EntryD.cells 5 w A0 b.log.entries a0) (hh : SlF AnyB HeadD.cells 5 w A2 b.heads a2) (ok0 : ∀ x ∈ b.log.entries, x.Ok) (hB : brokerB b = true) :
 Calls Tryz.prog 105 #[.agg (brkV b A0 a0 A1 a1 A2 a2 A3 a3 A4 a4).toArray, .int .i64 k, .int .i64 n] w (LfAns b k n w) := by
 obtain ⟨hwd, hle, he2, _, _, h0, hh4, hok⟩ := broker_parts hB
 obtain ⟨cs, hcs⟩ : ∃ cs, cs = (brkV b A0 a0 A1 a1 A2 a2 A3 a3 A4 a4) := ⟨_, rfl⟩
 have HL13 := hU (show cs.length = 13 by rw [hcs]; rfl)
 have HC3 : cs[3]? = some (.slice A2 b.heads.length a2) := by rw [hcs]; rfl
 have HS := hU (fun (W : World) (h : Ext w W) => l12HasSize_any cs A2 a2 b.heads n W HL13.out HC3 (hh.ext h).reads (by omega))
 obtain ⟨LE, hLE⟩ : ∃ LE, LE = b.log.entries.length := ⟨_, rfl⟩
 have BH : ∀ (W : World) (g : Nat), Blk W g 59 cs.toArray → W.cell? ⟨g, 0, none⟩ = some (.int .i64 b.width) ∧ W.cell? ⟨g, 1, none⟩ = some (.slice A0 LE a0) := fun W g h => by
  rw [hcs] at h
  rw [hLE]
  exact ⟨h.cell 0, h.cell 1⟩
 rw [← hcs]
 have HE := hU he
 have INC := hU (leavesH_in hB); have OK0 := hU ok0; have HSZ := hU (fun h => has_size (n := n) hB h)
 obtain ⟨wd, hwd2⟩ : ∃ wd, wd = b.width := ⟨_, rfl⟩
 rw [← hwd2] at hwd BH
 have BH := hU BH
 have HWD := hU hwd2; have HLE := hU hLE
 rw [← hLE] at hle
 clear he hh ok0 hB he2 h0 hh4 hok hwd2 hcs HC3 hLE
 obtain ⟨B1, K0, E1⟩ := two_new w cs.toArray #[.string ⟨#[]⟩, .int .i64 0, .int .i64 0, .string ⟨#[]⟩, .string ⟨#[]⟩] 59 46
 obtain ⟨g, hg⟩ : ∃ g, g = w.heap.size := ⟨_, rfl⟩
 obtain ⟨q, hq⟩ : ∃ q, q = w.heap.size + 1 := ⟨_, rfl⟩
 go_enter Tryz.func105, Tryz.ntmps105
 go_upto_region 1 with fail
 obtain ⟨w1, hw1⟩ : ∃ w1, w1 = (w.alloc (.cells cs.toArray 59)).alloc (.cells #[.string ⟨#[]⟩, .int .i64 0, .int .i64 0, .string ⟨#[]⟩, .string ⟨#[]⟩] 46) := ⟨_, rfl⟩
 rw [← hw1] at B1 K0 E1
 rw [← hw1]
 rw [← hq] at K0
 rw [← hg] at B1
 rw [← hq, ← hg]
 have hqw : w.heap.size ≤ q := by omega
 have hgw : w.heap.size ≤ g := by omega
 have hgq : g < q := by omega
 clear hw1 hq hg
 have RX := hU (Blk.range B1)
 go_wp2_with (refine wpList_load_mid rfl 59 _ rfl g 0 rfl cs _ RX.out Tryz.underlying59 rfl (by rw [HL13.out]; kernel_rfl) ?_)
 refine (HS.out _ E1).mono ?_
 rintro e w2 ⟨rfl, h1⟩
 replace K0 := K0.ext h1; replace E1 := E1.next h1; replace B1 := B1.ext h1
 clear h1 HS RX
 have KS := K0.alloc (.cells #[] 9)
 have X4 := hU (KS.put 0 [.string ⟨#[]⟩, .int .i64 0, .int .i64 0, .string ⟨#[]⟩, .string ⟨#[]⟩] #[.string ⟨#[]⟩, .int .i64 0, .int .i64 0, .string ⟨#[]⟩, .string ⟨#[]⟩] (by simp) rfl)
 have X5 := hU (ext_setCells (W := w) hqw [.string ⟨#[]⟩, .int .i64 0, .int .i64 0, .string ⟨#[]⟩, .string ⟨#[]⟩] 0 _ (E1.new (.cells #[] 9)))
 have X6 := hU (show RowT w.heap.size ((w2.alloc (.cells #[] 9)).setCells q 0 [.string ⟨#[]⟩, .int .i64 0, .int .i64 0, .string ⟨#[]⟩, .string ⟨#[]⟩]) (.slice (some ⟨w2.heap.size, 0, none⟩) 0 0) [] from row_away (ownsRow_empty w2 9 1) K0.lt E1.size [.string ⟨#[]⟩, .int .i64 0, .int .i64 0, .string ⟨#[]⟩, .string ⟨#[]⟩] 0)
 have HSB : (b.heads.any (szP n)) = hasB b n := rfl
 rw [HSB]
 clear HSB
 cases ph : hasB b n
 · have E := hU (lf2 (k := k) ph)
   obtain ⟨r0, m0⟩ := KS.rules
   clear ph K0 E1 KS B1
   go_wp2_with fail
   exact ret_ent rfl rfl X4.out Tryz.underlying46 rfl (by kernel_rfl) rfl (lf_bad_end E.out (by decide) rfl X6.out X5.out)
 by_cases hk0 : k < 0
 · have E := hU (lf3 (k := k) ph (by omega))
   obtain ⟨r0, m0⟩ := KS.rules
   clear ph K0 E1 KS B1
   go_wp2_with fail
   exact ret_ent rfl rfl X4.out Tryz.underlying46 rfl (by kernel_rfl) rfl (lf_bad_end E.out (by decide) rfl X6.out X5.out)
 by_cases hkn : n ≤ k
 · have E := hU (lf3 (k := k) ph (by omega))
   obtain ⟨r0, m0⟩ := KS.rules
   clear ph K0 E1 KS B1
   go_wp2_with fail
   exact ret_ent rfl rfl X4.out Tryz.underlying46 rfl (by kernel_rfl) rfl (lf_bad_end E.out (by decide) rfl X6.out X5.out)
 clear KS X4 X5 X6
 have E := hU (lf0 (k := k) ph (by omega))
 obtain ⟨m, rfl, hm⟩ := HSZ.out ph
 rw [← HLE.out] at hm
 obtain ⟨j, rfl⟩ : ∃ j : Nat, k = (j : Int) := ⟨k.toNat, by omega⟩
 have hjm : j < m := by omega
 obtain ⟨b0, off, rfl, hb0, hc⟩ := Reads.at_ HE.out.reads (k := j) (by rw [← HLE.out]; omega)
 obtain ⟨d, hd⟩ : ∃ d, d = b.log.entries[j]'(by rw [← HLE.out]; omega) := ⟨_, rfl⟩
 have hdl : b.log.entries[j]? = some d := by rw [hd]; exact List.getElem?_eq_getElem (by rw [← HLE.out]; omega)
 obtain ⟨y0, y1, y2, y3, y4⟩ := entry_at hc hdl
 have ZD := hU (show d = lfAE b (j : Int) (m : Int) by rw [(lfA_good E.out).1, lfE, List.getD_eq_getElem?_getD, show ((j : Int).toNat) = j from rfl, hdl]; rfl)
 have ZP := hU (show lfAP b (j : Int) (m : Int) = inclN b.width 512 ((b.log.entries.take m).map (leafH b.width)) j by rw [(lfA_good E.out).2, lfP, show ((m : Int).toNat) = m from rfl, show ((j : Int).toNat) = j from rfl, lf_take])
 have hac := HE.out.le; have hac2 := HE.out.cap
 rw [← HLE.out] at hac
 have hac3 : a0 ≤ 9223372036854775807 := by unfold maxLen at hac2; omega
 have hma : m ≤ a0 := by omega
 have CH : Hid (∀ W : World, Ext w W → Calls Tryz.prog 72 #[.int .i64 wd, .slice (some ⟨b0, off, none⟩) m a0] W fun e w' => ∃ v, e = .returned v ∧ RowT W.heap.size w' v ((b.log.entries.take m).map (leafH b.width)) ∧ Ext W w') := hU (fun W h => by
  have t1 : (b.log.entries.take m).length = m := by rw [List.length_take, ← HLE.out]; omega
  have h2 := l09Hashes_any b.width (some ⟨b0, off, none⟩) a0 (b.log.entries.take m) W (slf_takeE (HE.out.ext h) m (by rw [← HLE.out]; exact hm)) (fun d hd => OK0.out d (List.mem_of_mem_take hd)) (by omega)
  rw [t1] at h2
  rw [HWD.out]
  refine h2.mono ?_
  rintro e w' ⟨v, he, ho, hx⟩
  exact ⟨v, he, RowT.of ho (by rw [List.length_map, t1]) rfl, hx⟩)
 have LI := hU (INC.out m); rw [lf_take] at LI
 obtain ⟨LS, hLS⟩ : ∃ LS, LS = (b.log.entries.take m).map (leafH b.width) := ⟨_, rfl⟩
 have hLL : LS.length = m := by rw [hLS, List.length_map, List.length_take, ← HLE.out]; omega
 rw [← hLS] at LI CH ZP
 rw [← HWD.out] at ZP LI
 obtain ⟨IP, hIP⟩ : ∃ IP, IP = inclN wd 512 LS j := ⟨_, rfl⟩
 rw [← hIP] at ZP
 have IN : Hid (∀ (W : World) (V : Option Addr) (c : Nat), SlF AnyB sone 1 W V LS c → Calls Tryz.prog 173 #[.int .i64 wd, .slice V m c, .int .i64 (j : Int)] W fun e w' => ∃ v, e = .returned (.tuple #[v, .bool true]) ∧ RowT W.heap.size w' v IP ∧ Ext W w') := hU (fun W V c h => by rw [hIP, ← hLL]; exact specInclusion_good wd hwd 512 LS V c j W (by omega) (by omega) (by omega) h LI.out)
 have hjl : j < LE := by omega
 have d1 : decide ((j : Int) < 0) = false := decide_eq_false hk0
 have d2 : decide ((m : Int) ≤ (j : Int)) = false := decide_eq_false hkn
 have d3 : decide (m ≤ j) = false := decide_eq_false (by omega)
 have HLL := hU hLL
 clear hc hdl hd hk0 hkn hLS HSZ INC OK0 ph HE HWD hIP LI HLE hLL
 have E2 := hU E1; have B2 := hU B1; have K2 := hU K0
 clear E1 K0 B1
 go_upto_region 5 with fail
 refine wp_region_held_drew (S := fun w' => Blk w' g 59 cs.toArray ∧ Blk w' q 46 #[.string ⟨#[]⟩, .int .i64 0, .int .i64 0, .string ⟨#[]⟩, .string ⟨#[]⟩] ∧ Ext w w') (by kernel_rfl) ⟨B2.out.drew, K2.out.drew, E2.out.drew⟩ (fun hH => ?_)
 refine takeQ 0 (.pointer (some ⟨g, 0, none⟩)) (some 27) rfl rfl (by kernel_rfl) (Or.inl ⟨by rfl, ?yb1⟩) hH ?rb1
 case yb1 => intro w' hS'; go_simp; try with_reducible rfl
 try simp only [zA]
 refine takeQ 1 (.int .i64 wd) (some 28) rfl rfl (by kernel_rfl) (Or.inl ⟨by rfl, ?yb2⟩) hH ?rb2
 case yb2 => intro w' hS'; obtain ⟨x0, x1⟩ := BH.out _ _ hS'.1; go_simp; try with_reducible rfl
 try simp only [zA]
 refine takeQ 2 (.pointer (some ⟨g, 0, none⟩)) (some 29) rfl rfl (by kernel_rfl) (Or.inl ⟨by rfl, ?yb3⟩) hH ?rb3
 case yb3 => intro w' hS'; go_simp; try with_reducible rfl
 try simp only [zA]
 refine takeQ 3 (.int .i64 wd) (some 30) rfl rfl (by kernel_rfl) (Or.inl ⟨by rfl, ?yb4⟩) hH ?rb4
 case yb4 => intro w' hS'; obtain ⟨x0, x1⟩ := BH.out _ _ hS'.1; go_simp; try with_reducible rfl
 try simp only [zA]
 refine takeQ 4 (.pointer (some ⟨g, 1, none⟩)) (some 31) rfl rfl (by kernel_rfl) (Or.inl ⟨by rfl, ?yb5⟩) hH ?rb5
 case yb5 => intro w' hS'; go_simp; try with_reducible rfl
 try simp only [zA]
 refine takeQ 5 (.pointer (some ⟨g, 1, none⟩)) (some 32) rfl rfl (by kernel_rfl) (Or.inl ⟨by rfl, ?yb6⟩) hH ?rb6
 case yb6 => intro w' hS'; go_simp; try with_reducible rfl
 try simp only [zA]
 refine takeQ 6 (.slice (some ⟨b0, off, none⟩) LE a0) (some 33) rfl rfl (by kernel_rfl) (Or.inl ⟨by rfl, ?yb7⟩) hH ?rb7
 case yb7 => intro w' hS'; obtain ⟨x0, x1⟩ := BH.out _ _ hS'.1; go_simp; try with_reducible rfl
 try simp only [zA]
 refine takeQ 7 (.int .i64 (m : Int)) (some 34) rfl rfl (by kernel_rfl) (Or.inl ⟨by rfl, ?yb8⟩) hH ?rb8
 case yb8 => intro w' hS'; obtain ⟨x0, x1⟩ := BH.out _ _ hS'.1; go_simp; try with_reducible rfl
 try simp only [zA]
 refine takeQ 8 (.slice (some ⟨b0, off, none⟩) m a0) (some 35) rfl rfl (by kernel_rfl) (Or.inl ⟨by rfl, ?yb9⟩) hH ?rb9
 case yb9 => intro w' hS'; obtain ⟨x0, x1⟩ := BH.out _ _ hS'.1; go_simp; try with_reducible rfl
 try simp only [zA]
 refine takeQ 10 (.int .i64 (j : Int)) (some 37) rfl rfl (by kernel_rfl) (Or.inl ⟨by rfl, ?yb10⟩) hH ?rb10
 case yb10 => intro w' hS'; obtain ⟨x0, x1⟩ := BH.out _ _ hS'.1; go_simp; try with_reducible rfl
 try simp only [zA]
 refine oneH 9 (oi := _) (some 36) (by kernel_rfl) rfl rfl rfl (fun K' hK => ?_)
 refine ⟨?_⟩
 rw [if_pos (by rfl)]
 go_simp
 refine (CH.out _ hH.2.2).mono ?_
 rintro e w3 ⟨v1, rfl, ho, h1⟩
 obtain ⟨V1, v1c, hv1, sf⟩ := slf_own ho
 rw [HLL.out] at hv1
 subst hv1
 have HV := hU sf.any
 clear ho sf
 refine hK.out _ _ ⟨_, rfl⟩ (⟨hH.1.ext h1, hH.2.1.ext h1, hH.2.2.next h1⟩) (fun hH2 => ?_)
 clear hK K' hH h1
 have hH := hH2
 clear hH2
 try simp only [zB]
 refine oneH 11 (oi := _) (some 38) (by kernel_rfl) rfl rfl rfl (fun K' hK => ?_)
 refine ⟨?_⟩
 rw [if_pos (by rfl)]
 go_simp
 refine (IN.out _ _ _ HV.out).mono ?_
 rintro e w4 ⟨v2, rfl, ho, h1⟩
 have hq3 : q < w3.heap.size := hH.2.1.lt
 have hs3 := hH.2.2.size
 have HO := hU ho
 clear ho
 refine hK.out _ _ ⟨_, rfl⟩ (⟨hH.1.ext h1, hH.2.1.ext h1, hH.2.2.next h1⟩) (fun hH2 => ?_)
 clear hK K' hH h1
 have hH := hH2
 clear hH2
 try simp only [zB]
 refine takeQ 12 (.tuple #[v2, .bool true]) (some 26) rfl rfl (by kernel_rfl) (Or.inl ⟨by rfl, ?yb11⟩) hH ?rb11
 case yb11 => intro w' hS'; obtain ⟨x0, x1⟩ := BH.out _ _ hS'.1; go_simp; try with_reducible rfl
 try simp only [zA]
 refine takeQ 13 (v2) (some 39) rfl rfl (by kernel_rfl) (Or.inl ⟨by rfl, ?yb12⟩) hH ?rb12
 case yb12 => intro w' hS'; obtain ⟨x0, x1⟩ := BH.out _ _ hS'.1; go_simp; try with_reducible rfl
 try simp only [zA]
 refine takeQ 14 (.bool true) (some 40) rfl rfl (by kernel_rfl) (Or.inl ⟨by rfl, ?yb13⟩) hH ?rb13
 case yb13 => intro w' hS'; go_simp; try with_reducible rfl
 try simp only [zA]
 refine takeQ 15 (v2) (some 9) rfl rfl (by kernel_rfl) (Or.inl ⟨by rfl, ?yb14⟩) hH ?rb14
 case yb14 => intro w' hS'; obtain ⟨x0, x1⟩ := BH.out _ _ hS'.1; go_simp; try with_reducible rfl
 try simp only [zA]
 refine takeQ 16 (.bool true) (some 10) rfl rfl (by kernel_rfl) (Or.inl ⟨by rfl, ?yb15⟩) hH ?rb15
 case yb15 => intro w' hS'; go_simp; try with_reducible rfl
 try simp only [zA]
 have KB := hU hH.1; have KQ := hU hH.2.1; have KE := hU hH.2.2
 clear hH
 refine wpAnyH_done (by kernel_rfl) ?_ _
 obtain ⟨r0, m0⟩ := KQ.out.rules
 obtain ⟨x0, x1⟩ := BH.out _ _ KB.out
 have z0 := (KE.out.cell (p := ⟨b0, off + j * 5, none⟩) hb0).trans y0
 have z1 := (KE.out.cell (p := ⟨b0, off + j * 5 + 1, none⟩) hb0).trans y1
 have z2 := (KE.out.cell (p := ⟨b0, off + j * 5 + 2, none⟩) hb0).trans y2
 have z3 := (KE.out.cell (p := ⟨b0, off + j * 5 + 3, none⟩) hb0).trans y3
 have z4 := (KE.out.cell (p := ⟨b0, off + j * 5 + 4, none⟩) hb0).trans y4
 have X4 := hU (KQ.out.put 0 [.string d.topic, .int .i64 d.index, .int .i64 d.time, .string d.key, .string d.body] #[.string d.topic, .int .i64 d.index, .int .i64 d.time, .string d.key, .string d.body] (by simp) rfl)
 have X5 := hU (ext_setCells (W := w) hqw [.string d.topic, .int .i64 d.index, .int .i64 d.time, .string d.key, .string d.body] 0 _ KE.out)
 have X6 := hU (show RowT w.heap.size (w4.setCells q 0 [.string d.topic, .int .i64 d.index, .int .i64 d.time, .string d.key, .string d.body]) v2 IP from row_away HO.out hq3 hs3 [.string d.topic, .int .i64 d.index, .int .i64 d.time, .string d.key, .string d.body] 0)
 clear y0 y1 y2 y3 y4
 go_wp2_with fail
 exact ret_ent rfl rfl X4.out Tryz.underlying46 rfl (by kernel_rfl) rfl ⟨v2, d, ZD.out, by rw [E.out]; rfl, by rw [ZP.out]; exact X6.out, X5.out⟩
theorem l12Fetch_any (b : BrokerD) (t : ByteArray) (ix n : Int) (A0 : Option Addr) (a0 : Nat) (A1 : Option Addr) (a1 : Nat) (A2 : Option Addr) (a2 : Nat) (A3 : Option Addr) (a3 : Nat) (A4 : Option Addr) (a4 : Nat) (w : World) (he : SlF AnyB EntryD.cells 5 w A0 b.log.entries a0) (hh : SlF AnyB HeadD.cells 5 w A2 b.heads a2) (ok0 : ∀ x ∈ b.log.entries, x.Ok) (hB : brokerB b = true) :
 Calls Tryz.prog 46 #[.agg (brkV b A0 a0 A1 a1 A2 a2 A3 a3 A4 a4).toArray, .string t, .int .i64 ix, .int .i64 n] w (FtAns (ftAE b t ix n) (ftAL b t ix n) (lfAP b (ftIx b t ix) n) (lfCode b (ftIx b t ix) n) w) := by
 obtain ⟨hwd, hle, he2, _, _, h0, hh4, hok⟩ := broker_parts hB
 have LP := hU (fun (k n : Int) (W : World) (h : Ext w W) => l12Leaf_any b A0 a0 A1 a1 A2 a2 A3 a3 A4 a4 k n W (he.ext h) (hh.ext h) ok0 hB)
 obtain ⟨cs, hcs⟩ : ∃ cs, cs = (brkV b A0 a0 A1 a1 A2 a2 A3 a3 A4 a4) := ⟨_, rfl⟩
 have HL13 := hU (show cs.length = 13 by rw [hcs]; rfl)
 have HC3 : cs[3]? = some (.slice A2 b.heads.length a2) := by rw [hcs]; rfl
 have HS := hU (fun (W : World) (h : Ext w W) => l12HasSize_any cs A2 a2 b.heads n W HL13.out HC3 (hh.ext h).reads (by omega))
 obtain ⟨LE, hLE⟩ : ∃ LE, LE = b.log.entries.length := ⟨_, rfl⟩
 have BH : ∀ (W : World) (g : Nat), Blk W g 59 cs.toArray → W.cell? ⟨g, 1, none⟩ = some (.slice A0 LE a0) := fun W g h => by
  rw [hcs] at h
  rw [hLE]
  exact h.cell 1
 have BH := hU BH
 rw [← hcs] at LP
 rw [← hcs]
 have LF : Hid (∀ (m : Nat) (W : World), m ≤ LE → Ext w W → Calls Tryz.prog 101 #[.slice A0 m a0, .string t, .int .i64 ix] W fun e w' => e = .returned (.int .i64 (idxB (ofTI t ix) (b.log.entries.take m))) ∧ W = w') := hU (fun m W hm h => by
  have t1 : (b.log.entries.take m).length = m := by rw [List.length_take, ← hLE]; omega
  have h2 := l09Leaf_any A0 a0 (b.log.entries.take m) t ix W (slf_takeA (he.ext h) m (by omega)).reads (by omega)
  rwa [t1] at h2)
 have hac := he.le; have hac2 := he.cap
 rw [← hLE] at hac
 have hac3 : a0 ≤ 9223372036854775807 := by unfold maxLen at hac2; omega
 have HSZ := hU (fun h => has_size (n := n) hB h)
 have HLE := hU hLE
 clear he hh ok0 hB he2 h0 hh4 hok hcs HC3 hLE hac2
 obtain ⟨B1, K0, E1⟩ := two_new w cs.toArray #[.string ⟨#[]⟩, .int .i64 0, .int .i64 0, .string ⟨#[]⟩, .string ⟨#[]⟩] 59 46
 obtain ⟨g, hg⟩ : ∃ g, g = w.heap.size := ⟨_, rfl⟩
 obtain ⟨q, hq⟩ : ∃ q, q = w.heap.size + 1 := ⟨_, rfl⟩
 go_enter Tryz.func46, Tryz.ntmps46
 go_upto_region 1 with fail
 obtain ⟨w1, hw1⟩ : ∃ w1, w1 = (w.alloc (.cells cs.toArray 59)).alloc (.cells #[.string ⟨#[]⟩, .int .i64 0, .int .i64 0, .string ⟨#[]⟩, .string ⟨#[]⟩] 46) := ⟨_, rfl⟩
 rw [← hw1] at B1 K0 E1
 rw [← hw1]
 rw [← hq] at K0
 rw [← hg] at B1
 rw [← hq, ← hg]
 have hqw : w.heap.size ≤ q := by omega
 have hgq : g < q := by omega
 clear hw1 hq hg
 have RX := hU (Blk.range B1)
 go_wp2_with (refine wpList_load_mid rfl 59 _ rfl g 0 rfl cs _ RX.out Tryz.underlying59 rfl (by rw [HL13.out]; kernel_rfl) ?_)
 refine (HS.out _ E1).mono ?_
 rintro e w2 ⟨rfl, h1⟩
 replace K0 := K0.ext h1; replace E1 := E1.next h1; replace B1 := B1.ext h1
 clear h1 HS RX
 have HSB : (b.heads.any (szP n)) = hasB b n := rfl
 rw [HSB]
 clear HSB
 cases ph : hasB b n
 · have E := hU (lf2 (k := ftIx b t ix) ph)
   have KS := K0.alloc (.cells #[] 9)
   have X4 := hU (KS.put 0 [.string ⟨#[]⟩, .int .i64 0, .int .i64 0, .string ⟨#[]⟩, .string ⟨#[]⟩] #[.string ⟨#[]⟩, .int .i64 0, .int .i64 0, .string ⟨#[]⟩, .string ⟨#[]⟩] (by simp) rfl)
   have X5 := hU (ext_setCells (W := w) hqw [.string ⟨#[]⟩, .int .i64 0, .int .i64 0, .string ⟨#[]⟩, .string ⟨#[]⟩] 0 _ (E1.new (.cells #[] 9)))
   have X6 := hU (show RowT w.heap.size ((w2.alloc (.cells #[] 9)).setCells q 0 [.string ⟨#[]⟩, .int .i64 0, .int .i64 0, .string ⟨#[]⟩, .string ⟨#[]⟩]) (.slice (some ⟨w2.heap.size, 0, none⟩) 0 0) [] from row_away (ownsRow_empty w2 9 1) K0.lt E1.size [.string ⟨#[]⟩, .int .i64 0, .int .i64 0, .string ⟨#[]⟩, .string ⟨#[]⟩] 0)
   obtain ⟨r0, m0⟩ := KS.rules
   clear ph K0 E1 KS B1
   go_wp2_with fail
   exact ret_en3 rfl rfl X4.out Tryz.underlying46 rfl (by kernel_rfl) rfl (ftA_bad E.out (by decide) rfl X6.out X5.out)
 obtain ⟨m, rfl, hm⟩ := HSZ.out ph
 rw [← HLE.out] at hm
 have FP := hU (ft_part (b := b) (t := t) (ix := ix) m)
 have hma : m ≤ a0 := by omega
 have SL := hU (fun W => run_top (P := Tryz.prog) (t := 49) A0 LE a0 m 5 Tryz.underlying49 (fun W => by kernel_rfl) hma W)
 have x1 := BH.out _ _ B1
 have C39 := hU (show lfCode b (ftIx b t ix) (m : Int) = 0 ∨ lfCode b (ftIx b t ix) (m : Int) = 3 by rw [lfCode, ph, if_pos rfl]; split <;> simp)
 have SL2 := SL.out
 go_upto_region 3 with fail
 go_wp2_with fail
 refine (LF.out m _ hm E1).mono ?_
 rintro e w3 ⟨rfl, rfl⟩
 obtain ⟨y, hy⟩ : ∃ y, y = idxB (ofTI t ix) (b.log.entries.take m) := ⟨_, rfl⟩
 rw [← hy] at FP
 rw [← hy]
 have RX := hU (Blk.range B1)
 clear SL SL2 x1 hy LF HSZ
 go_wp2_with (refine wpList_load_mid rfl 59 _ rfl g 0 rfl cs _ RX.out Tryz.underlying59 rfl (by rw [HL13.out]; kernel_rfl) ?_)
 refine (LP.out y _ _ E1).mono ?_
 rintro e w4 ⟨v, d, hd, rfl, hr, h1⟩
 have hq2 := K0.lt
 have hs2 := E1.size
 have HD := hU hd
 obtain ⟨cc, hcc⟩ : ∃ cc, cc = lfCode b (ftIx b t ix) (m : Int) := ⟨_, rfl⟩
 have HC := hU hcc.symm
 have e1 : lfCode b y (m : Int) = cc := by rw [FP.out.1, hcc]
 rw [e1]
 rw [← hcc] at C39 FP
 have K1 := K0.ext h1; have E2 := E1.next h1
 have KA := K1.alloc (.cells #[.string d.topic, .int .i64 d.index, .int .i64 d.time, .string d.key, .string d.body] 46)
 have EA := E2.new (.cells #[.string d.topic, .int .i64 d.index, .int .i64 d.time, .string d.key, .string d.body] 46)
 have HR := hU (ownsRow_ext hr (Ext.new (Below.refl w4.heap.size w4) (.cells #[.string d.topic, .int .i64 d.index, .int .i64 d.time, .string d.key, .string d.body] 46)))
 have E1' := hU e1
 clear h1 LP K0 E1 hd K1 E2 hr hcc e1 RX B1
 by_cases h0 : cc = 0
 · subst h0
   have hyx := FP.out.2 rfl
   have GD := hU (lfA_good (E1'.out)); have GX := hU (lfA_good (HC.out))
   have TX := hU (show ftAL b t ix (m : Int) = y by rw [ftAL, HC.out, if_pos rfl]; exact hyx.symm)
   have YX := hU hyx
   have X4 := hU (KA.put 0 [.string d.topic, .int .i64 d.index, .int .i64 d.time, .string d.key, .string d.body] #[.string d.topic, .int .i64 d.index, .int .i64 d.time, .string d.key, .string d.body] (by simp) rfl)
   have X5 := hU (ext_setCells (W := w) hqw [.string d.topic, .int .i64 d.index, .int .i64 d.time, .string d.key, .string d.body] 0 _ EA)
   have X6 := hU (row_away (B := w.heap.size) HR.out hq2 hs2 [.string d.topic, .int .i64 d.index, .int .i64 d.time, .string d.key, .string d.body] 0)
   obtain ⟨r0, m0⟩ := KA.rules
   clear KA EA HR hyx
   go_wp2_with fail
   exact ret_en3 rfl rfl X4.out Tryz.underlying46 rfl (by kernel_rfl) rfl ⟨v, d, by rw [HD.out, ftAE, ← YX.out], by rw [HC.out, TX.out]; rfl, by rw [← YX.out]; exact X6.out, X5.out⟩
 · have h3 : cc = 3 := by rcases C39.out with h | h <;> omega
   subst h3
   have KZ := KA.alloc (.cells #[] 9)
   have X4 := hU (KZ.put 0 [.string ⟨#[]⟩, .int .i64 0, .int .i64 0, .string ⟨#[]⟩, .string ⟨#[]⟩] #[.string ⟨#[]⟩, .int .i64 0, .int .i64 0, .string ⟨#[]⟩, .string ⟨#[]⟩] (by simp) rfl)
   have X5 := hU (ext_setCells (W := w) hqw [.string ⟨#[]⟩, .int .i64 0, .int .i64 0, .string ⟨#[]⟩, .string ⟨#[]⟩] 0 _ (EA.new (.cells #[] 9)))
   have X6 := hU (show RowT w.heap.size (((w4.alloc (.cells #[.string d.topic, .int .i64 d.index, .int .i64 d.time, .string d.key, .string d.body] 46)).alloc (.cells #[] 9)).setCells q 0 [.string ⟨#[]⟩, .int .i64 0, .int .i64 0, .string ⟨#[]⟩, .string ⟨#[]⟩]) (.slice (some ⟨(w4.alloc (.cells #[.string d.topic, .int .i64 d.index, .int .i64 d.time, .string d.key, .string d.body] 46)).heap.size, 0, none⟩) 0 0) [] from row_away (ownsRow_empty _ 9 1) KA.lt EA.size [.string ⟨#[]⟩, .int .i64 0, .int .i64 0, .string ⟨#[]⟩, .string ⟨#[]⟩] 0)
   obtain ⟨r0, m0⟩ := KZ.rules
   clear KA EA HR KZ h0
   go_wp2_with fail
   exact ret_en3 rfl rfl X4.out Tryz.underlying46 rfl (by kernel_rfl) rfl (ftA_bad HC.out (by decide) (by simp) X6.out X5.out)
end Go.Proofs.YtlgdghpnfclgpaaGreat

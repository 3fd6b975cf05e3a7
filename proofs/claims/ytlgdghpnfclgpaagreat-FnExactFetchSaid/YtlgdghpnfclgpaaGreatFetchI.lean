/-
  FetchI: No condition.
-/
import Derived.Test.YtlgdghpnfclgpaaGreatInclI
import Derived.Test.YtlgdghpnfclgpaaGreatLeafI
import Derived.Test.YtlgdghpnfclgpaaGreatNodeW
import Derived.Test.YtlgdghpnfclgpaaGreatDisk0
namespace Go.Proofs.YtlgdghpnfclgpaaGreat
set_option maxHeartbeats 4000000
set_option maxRecDepth 100000
set_option linter.unusedSimpArgs false
open Go.RowKit
set_option linter.unusedVariables false
theorem ret_ent {P : Program} {fn : Func} {R : Ending → World → Prop} {a : Act} {w : World} {p u v : Tmp} {ty g t : Nat} {cs : Array Value} {d : TypeDesc} (h : fn.results = #[.cell p ty, .tmp u, .tmp v])
 (hp : a.tmps.getD p undef = .pointer (some ⟨g, 0, none⟩)) (hB : Blk w g t cs) (hu : P.underlying ty = some d) (hd : (match d with | .struct _ | .array _ _ => true | _ => false) = true) (hi : (P.info? ty).map (·.size) = some cs.size)
 (hdef : a.defers = []) (hR : R (.returned (.tuple #[.agg cs, a.tmps.getD u undef, a.tmps.getD v undef])) w) : bodyPost P fn R .ret a w := by
 refine bodyPost_ret (v := .tuple #[.agg cs, a.tmps.getD u undef, a.tmps.getD v undef]) ?_ hdef hR
 have hp' : a.tmps[p]?.getD undef = .pointer (some ⟨g, 0, none⟩) := by simpa using hp
 simp [results, h, hp', asAddr, Sem.run_bind, Result.andThen, run_loadVar_row w g t ty cs (0, 0) d hB hu hd hi]
theorem ret_en3 {P : Program} {fn : Func} {R : Ending → World → Prop} {a : Act} {w : World} {p u v x : Tmp} {ty g t : Nat} {cs : Array Value} {d : TypeDesc} (h : fn.results = #[.cell p ty, .tmp u, .tmp v, .tmp x])
 (hp : a.tmps.getD p undef = .pointer (some ⟨g, 0, none⟩)) (hB : Blk w g t cs) (hu : P.underlying ty = some d) (hd : (match d with | .struct _ | .array _ _ => true | _ => false) = true) (hi : (P.info? ty).map (·.size) = some cs.size)
 (hdef : a.defers = []) (hR : R (.returned (.tuple #[.agg cs, a.tmps.getD u undef, a.tmps.getD v undef, a.tmps.getD x undef])) w) : bodyPost P fn R .ret a w := by
 refine bodyPost_ret (v := .tuple #[.agg cs, a.tmps.getD u undef, a.tmps.getD v undef, a.tmps.getD x undef]) ?_ hdef hR
 have hp' : a.tmps[p]?.getD undef = .pointer (some ⟨g, 0, none⟩) := by simpa using hp
 simp [results, h, hp', asAddr, Sem.run_bind, Result.andThen, run_loadVar_row w g t ty cs (0, 0) d hB hu hd hi]
theorem row_away {w1 : World} {B K g e size n : Nat} {v : Value} {xs : List Value} (h : w1.ownsRow K e size v n xs) (hg : g < K) (hB : B ≤ K) (vs : List Value) (o : Nat) : (w1.setCells g o vs).ownsRow B e size v n xs :=
 ownsRow_base (ownsRow_far h (grow_setCells g vs o w1 w1 (World.grownBy.refl _ _)) hg) hB
def lfAE (b : BrokerD) (k n : Int) : EntryD := if lfCode b k n = 0 then lfE b k else zE
def lfAP (b : BrokerD) (k n : Int) : List ByteArray := if lfCode b k n = 0 then lfP b k n else []
theorem lfA_bad {b : BrokerD} {k n : Int} (h : lfCode b k n ≠ 0) : lfAE b k n = zE ∧ lfAP b k n = [] := ⟨by rw [lfAE, if_neg h], by rw [lfAP, if_neg h]⟩
theorem lfA_good {b : BrokerD} {k n : Int} (h : lfCode b k n = 0) : lfAE b k n = lfE b k ∧ lfAP b k n = lfP b k n := ⟨by rw [lfAE, if_pos h], by rw [lfAP, if_pos h]⟩
def LfAns (b : BrokerD) (k n : Int) (w : World) (e : Ending) (w' : World) : Prop := ∃ (v : Value) (d : EntryD), d = lfAE b k n ∧ e = .returned (.tuple #[.agg #[.string d.topic, .int .i64 d.index, .int .i64 d.time, .string d.key, .string d.body], v, .int .i64 (lfCode b k n : Int)]) ∧ RowT w.heap.size w' v (lfAP b k n) ∧ Ext w w'
def ftAE (b : BrokerD) (t : ByteArray) (ix n : Int) : EntryD := lfAE b (ftIx b t ix) n
def ftAL (b : BrokerD) (t : ByteArray) (ix n : Int) : Int := if lfCode b (ftIx b t ix) n = 0 then ftIx b t ix else 0
def FtAns (E : EntryD) (l : Int) (P : List ByteArray) (c : Nat) (w : World) (e : Ending) (w' : World) : Prop := ∃ (v : Value) (d : EntryD), d = E ∧ e = .returned (.tuple #[.agg #[.string d.topic, .int .i64 d.index, .int .i64 d.time, .string d.key, .string d.body], .int .i64 l, v, .int .i64 (c : Int)]) ∧ RowT w.heap.size w' v P ∧ Ext w w'
theorem lf_bad_end {b : BrokerD} {k n : Int} {c : Nat} {w w' : World} {e : Ending} {v : Value} (h : lfCode b k n = c) (h0 : c ≠ 0) (he : e = .returned (.tuple #[.agg #[.string ⟨#[]⟩, .int .i64 0, .int .i64 0, .string ⟨#[]⟩, .string ⟨#[]⟩], v, .int .i64 (c : Int)])) (ho : RowT w.heap.size w' v []) (hx : Ext w w') : LfAns b k n w e w' := by
 have hz := lfA_bad (k := k) (n := n) (b := b) (by omega)
 refine ⟨v, zE, hz.1.symm, ?_, by rw [hz.2]; exact ho, hx⟩
 rw [h]; exact he
theorem slf_takeE {w : World} {b off c : Nat} {l : List EntryD} (h : SlF AnyB EntryD.cells 5 w (some ⟨b, off, none⟩) l c) (k : Nat) (hk : k ≤ l.length) : SlF AnyB EntryD.cells 5 w (some ⟨b, off, none⟩) (l.take k) c :=
 ⟨by have := h.le; rw [List.length_take]; omega, h.cap, reads_take (f := EntryD.cells) (size := 5) EntryD.cells_length h.reads k hk, fun _ _ _ => trivial⟩
theorem leaves_any (n : Int) (l : List EntryD) (A : Option Addr) (c g m : Nat) (w : World) (c0 : w.cell? ⟨g, 0, none⟩ = some (.int .i64 n)) (c1 : w.cell? ⟨g, 1, none⟩ = some (.slice A l.length c)) (hg : g < w.heap.size) (hr : SlF AnyB EntryD.cells 5 w A l c) (hok : ∀ x ∈ l, x.Ok) (h0 : 0 < m) (hm : m ≤ l.length) (hl : l.length ≤ 1048576) :
 Calls Tryz.prog 180 #[.pointer (some ⟨g, 0, none⟩), .int .i64 (m : Int)] w fun e w' => ∃ v, e = .returned v ∧ RowT w.heap.size w' v ((l.take m).map (leafH n)) ∧ Ext w w' := by
 obtain ⟨b0, off, rfl, _, _⟩ := Reads.at_ hr.reads (k := 0) (by omega)
 have hle := hr.le
 have hcap := hr.cap
 have hcap2 : c ≤ 9223372036854775807 := by unfold maxLen at hcap; omega
 have hmc : m ≤ c := by omega
 have t1 : (l.take m).length = m := by rw [List.length_take]; omega
 have CH : Hid (∀ W : World, Ext w W → Calls Tryz.prog 145 #[.int .i64 n, .agg #[.slice (some ⟨b0, off, none⟩) m c]] W fun e w' => ∃ v, e = .returned v ∧ RowT W.heap.size w' v ((l.take m).map (leafH n)) ∧ Ext W w') := hU (fun W h => by
  have h2 := hashesOf_any n (some ⟨b0, off, none⟩) c (l.take m) W (slf_takeE (hr.ext h) m hm) (fun d hd => hok d (List.mem_of_mem_take hd)) (by omega)
  rw [t1] at h2
  refine h2.mono ?_
  rintro e w' ⟨v, he, ho, hx⟩
  exact ⟨v, he, RowT.of ho (by rw [List.length_map, t1]) rfl, hx⟩)
 clear hr hok t1 hcap
 go_enter Tryz.func180, Tryz.ntmps180
 go_upto_region 1 with fail
 refine wp_region_held_drew (S := fun w' => Ext w w') (by kernel_rfl) (show Ext w w from Below.refl w.heap.size w).drew (fun hH => ?_)
 refine takeQ 0 (.pointer (some ⟨g, 0, none⟩)) (some 5) rfl rfl (by kernel_rfl) (Or.inl ⟨by rfl, ?ya1⟩) hH ?ra1
 case ya1 => intro w' hS'; go_simp; try with_reducible rfl
 try simp only [zA]
 refine takeQ 1 (.pointer (some ⟨g, 0, none⟩)) (some 6) rfl rfl (by kernel_rfl) (Or.inl ⟨by rfl, ?ya2⟩) hH ?ra2
 case ya2 => intro w' hS'; go_simp; try with_reducible rfl
 try simp only [zA]
 refine takeQ 2 (.pointer (some ⟨g, 0, none⟩)) (some 7) rfl rfl (by kernel_rfl) (Or.inl ⟨by rfl, ?ya3⟩) hH ?ra3
 case ya3 => intro w' hS'; go_simp; try with_reducible rfl
 try simp only [zA]
 refine takeQ 3 (.int .i64 n) (some 8) rfl rfl (by kernel_rfl) (Or.inl ⟨by rfl, ?ya4⟩) hH ?ra4
 case ya4 => intro w' hS'; have x0 := (hS'.cell (p := ⟨g, 0, none⟩) hg).trans c0; have x1 := (hS'.cell (p := ⟨g, 1, none⟩) hg).trans c1; go_simp; try with_reducible rfl
 try simp only [zA]
 refine takeQ 4 (.pointer (some ⟨g, 0, none⟩)) (some 9) rfl rfl (by kernel_rfl) (Or.inl ⟨by rfl, ?ya5⟩) hH ?ra5
 case ya5 => intro w' hS'; go_simp; try with_reducible rfl
 try simp only [zA]
 refine takeQ 5 (.pointer (some ⟨g, 0, none⟩)) (some 10) rfl rfl (by kernel_rfl) (Or.inl ⟨by rfl, ?ya6⟩) hH ?ra6
 case ya6 => intro w' hS'; go_simp; try with_reducible rfl
 try simp only [zA]
 refine takeQ 6 (.pointer (some ⟨g, 1, none⟩)) (some 11) rfl rfl (by kernel_rfl) (Or.inl ⟨by rfl, ?ya7⟩) hH ?ra7
 case ya7 => intro w' hS'; go_simp; try with_reducible rfl
 try simp only [zA]
 refine takeQ 7 (.pointer (some ⟨g, 1, none⟩)) (some 12) rfl rfl (by kernel_rfl) (Or.inl ⟨by rfl, ?ya8⟩) hH ?ra8
 case ya8 => intro w' hS'; go_simp; try with_reducible rfl
 try simp only [zA]
 refine takeQ 8 (.slice (some ⟨b0, off, none⟩) l.length c) (some 13) rfl rfl (by kernel_rfl) (Or.inl ⟨by rfl, ?ya9⟩) hH ?ra9
 case ya9 => intro w' hS'; have x0 := (hS'.cell (p := ⟨g, 0, none⟩) hg).trans c0; have x1 := (hS'.cell (p := ⟨g, 1, none⟩) hg).trans c1; go_simp; try with_reducible rfl
 try simp only [zA]
 refine takeQ 9 (.int .i64 (m : Int)) (some 14) rfl rfl (by kernel_rfl) (Or.inl ⟨by rfl, ?ya10⟩) hH ?ra10
 case ya10 => intro w' hS'; have x0 := (hS'.cell (p := ⟨g, 0, none⟩) hg).trans c0; have x1 := (hS'.cell (p := ⟨g, 1, none⟩) hg).trans c1; go_simp; try with_reducible rfl
 try simp only [zA]
 refine takeQ 10 (.slice (some ⟨b0, off, none⟩) m c) (some 15) rfl rfl (by kernel_rfl) (Or.inl ⟨by rfl, ?ya11⟩) hH ?ra11
 case ya11 => intro w' hS'; have x0 := (hS'.cell (p := ⟨g, 0, none⟩) hg).trans c0; have x1 := (hS'.cell (p := ⟨g, 1, none⟩) hg).trans c1; go_simp; try with_reducible rfl
 try simp only [zA]
 refine takeQ 11 (.agg #[.slice (some ⟨b0, off, none⟩) m c]) (some 16) rfl rfl (by kernel_rfl) (Or.inl ⟨by rfl, ?ya12⟩) hH ?ra12
 case ya12 => intro w' hS'; have x0 := (hS'.cell (p := ⟨g, 0, none⟩) hg).trans c0; have x1 := (hS'.cell (p := ⟨g, 1, none⟩) hg).trans c1; go_simp; try with_reducible rfl
 try simp only [zA]
 refine oneH 12 (oi := _) (some 17) (by kernel_rfl) rfl rfl rfl (fun K' hK => ?_)
 refine ⟨?_⟩
 rw [if_pos (by rfl)]
 go_simp
 refine (CH.out _ hH).mono ?_
 rintro e w2 ⟨v1, rfl, h0, h1⟩
 have HV := hU (show RowT w.heap.size w2 v1 _ from ownsRow_base h0 hH.size)
 clear h0
 refine hK.out _ _ ⟨_, rfl⟩ (hH.next h1) (fun hH2 => ?_)
 clear hK K' hH h1
 have hH := hH2
 clear hH2
 try simp only [zB]
 refine takeQ 13 (v1) (some 4) rfl rfl (by kernel_rfl) (Or.inl ⟨by rfl, ?ya13⟩) hH ?ra13
 case ya13 => intro w' hS'; have x0 := (hS'.cell (p := ⟨g, 0, none⟩) hg).trans c0; have x1 := (hS'.cell (p := ⟨g, 1, none⟩) hg).trans c1; go_simp; try with_reducible rfl
 try simp only [zA]
 have he2 := hH
 clear hH
 refine wpAnyH_done (by kernel_rfl) ?_ _
 go_wp2_with fail
 go_ret
 exact ⟨v1, rfl, HV.out, he2⟩
theorem leafProof_any (b : BrokerD) (A0 : Option Addr) (a0 : Nat) (A1 : Option Addr) (a1 : Nat) (A2 : Option Addr) (a2 : Nat) (A3 : Option Addr) (a3 : Nat) (A4 : Option Addr) (a4 : Nat) (g : Nat) (k n : Int) (w : World) (hb : Blk w g 59 (brkV b A0 a0 A1 a1 A2 a2 A3 a3 A4 a4).toArray) (he : SlF AnyB EntryD.cells 5 w A0 b.log.entries a0) (hh : SlF AnyB HeadD.cells 5 w A2 b.heads a2) (ok0 : ∀ x ∈ b.log.entries, x.Ok) (hB : brokerB b = true) :
 Calls Tryz.prog 111 #[.pointer (some ⟨g, 0, none⟩), .int .i64 k, .int .i64 n] w (LfAns b k n w) := by
 obtain ⟨hwd, hle, he2, _, _, h0, hh4, hok⟩ := broker_parts hB
 have K0 := Blk.new w 46 #[.string ⟨#[]⟩, .int .i64 0, .int .i64 0, .string ⟨#[]⟩, .string ⟨#[]⟩]
 have E1 := Ext.new (Below.refl w.heap.size w) (.cells #[.string ⟨#[]⟩, .int .i64 0, .int .i64 0, .string ⟨#[]⟩, .string ⟨#[]⟩] 46)
 have hg := hb.lt
 have HS := hU (hasSize_any g A2 a2 b.heads n _ ((hb.ext E1).cell 3) (hb.ext E1).lt (hh.ext E1).reads (by omega))
 have KB := hU hb; have HE := hU he
 have INC := hU (leavesH_in hB); have OK0 := hU ok0; have HSZ := hU (fun h => has_size (n := n) hB h)
 obtain ⟨wd, hwd2⟩ : ∃ wd, wd = b.width := ⟨_, rfl⟩
 rw [← hwd2] at hwd
 have HWD := hU hwd2
 clear hb he hh ok0 hB he2 h0 hh4 hok hwd2
 obtain ⟨q, hq⟩ : ∃ q, q = w.heap.size := ⟨_, rfl⟩
 go_enter Tryz.func111, Tryz.ntmps111
 go_upto_region 1 with fail
 rw [← hq] at K0
 rw [← hq]
 obtain ⟨w1, hw1⟩ : ∃ w1, w1 = w.alloc (.cells #[.string ⟨#[]⟩, .int .i64 0, .int .i64 0, .string ⟨#[]⟩, .string ⟨#[]⟩] 46) := ⟨_, rfl⟩
 rw [← hw1] at K0 E1 HS
 rw [← hw1]
 have hqw : w.heap.size ≤ q := by omega
 have hgq : g < q := by omega
 clear hw1 hq
 go_wp2_with fail
 refine HS.out.mono ?_
 rintro e w2 ⟨rfl, h1⟩
 replace K0 := K0.ext h1; replace E1 := E1.next h1
 clear h1 HS
 have X4 := hU (K0.put 0 [.string ⟨#[]⟩, .int .i64 0, .int .i64 0, .string ⟨#[]⟩, .string ⟨#[]⟩] #[.string ⟨#[]⟩, .int .i64 0, .int .i64 0, .string ⟨#[]⟩, .string ⟨#[]⟩] (by simp) rfl)
 have X5 := hU (ext_setCells (W := w) hqw [.string ⟨#[]⟩, .int .i64 0, .int .i64 0, .string ⟨#[]⟩, .string ⟨#[]⟩] 0 _ E1)
 have HSB : (b.heads.any (szP n)) = hasB b n := rfl
 rw [HSB]
 clear HSB
 cases ph : hasB b n
 · have E := hU (lf2 (k := k) ph)
   obtain ⟨r0, m0⟩ := K0.rules
   clear ph K0 E1
   go_wp2_with fail
   exact ret_ent rfl rfl X4.out Tryz.underlying46 rfl (by kernel_rfl) rfl (lf_bad_end E.out (by decide) rfl (World.ownsRow_nil _ _ _ _) X5.out)
 by_cases hk0 : k < 0
 · have E := hU (lf3 (k := k) ph (by omega))
   obtain ⟨r0, m0⟩ := K0.rules
   clear ph K0 E1
   go_wp2_with fail
   exact ret_ent rfl rfl X4.out Tryz.underlying46 rfl (by kernel_rfl) rfl (lf_bad_end E.out (by decide) rfl (World.ownsRow_nil _ _ _ _) X5.out)
 by_cases hkn : n ≤ k
 · have E := hU (lf3 (k := k) ph (by omega))
   obtain ⟨r0, m0⟩ := K0.rules
   clear ph K0 E1
   go_wp2_with fail
   exact ret_ent rfl rfl X4.out Tryz.underlying46 rfl (by kernel_rfl) rfl (lf_bad_end E.out (by decide) rfl (World.ownsRow_nil _ _ _ _) X5.out)
 have E := hU (lf0 (k := k) ph (by omega))
 obtain ⟨m, rfl, hm⟩ := HSZ.out ph
 obtain ⟨j, rfl⟩ : ∃ j : Nat, k = (j : Int) := ⟨k.toNat, by omega⟩
 have hjm : j < m := by omega
 obtain ⟨b0, off, rfl, hb0, hc⟩ := Reads.at_ HE.out.reads (k := j) (by omega)
 obtain ⟨d, hd⟩ : ∃ d, d = b.log.entries[j]'(by omega) := ⟨_, rfl⟩
 have hdl : b.log.entries[j]? = some d := by rw [hd]; exact List.getElem?_eq_getElem (by omega)
 obtain ⟨y0, y1, y2, y3, y4⟩ := entry_at hc hdl
 have ZD := hU (show d = lfAE b (j : Int) (m : Int) by rw [(lfA_good E.out).1, lfE, List.getD_eq_getElem?_getD, show ((j : Int).toNat) = j from rfl, hdl]; rfl)
 have ZP := hU (show lfAP b (j : Int) (m : Int) = inclN b.width 512 ((b.log.entries.take m).map (leafH b.width)) j by rw [(lfA_good E.out).2, lfP, show ((m : Int).toNat) = m from rfl, show ((j : Int).toNat) = j from rfl, lf_take])
 have LV : Hid (∀ W : World, Ext w W → Calls Tryz.prog 180 #[.pointer (some ⟨g, 0, none⟩), .int .i64 (m : Int)] W fun e w' => ∃ v, e = .returned v ∧ RowT W.heap.size w' v ((b.log.entries.take m).map (leafH b.width)) ∧ Ext W w') := hU (fun W h => leaves_any b.width b.log.entries _ a0 g m W ((KB.out.ext h).cell 0) ((KB.out.ext h).cell 1) (KB.out.ext h).lt (HE.out.ext h) OK0.out (by omega) hm (by omega))
 have c0 := KB.out.cell 0; have c1 := KB.out.cell 1
 have hg2 := KB.out.lt
 have LI := hU (INC.out m); rw [lf_take] at LI
 obtain ⟨LS, hLS⟩ : ∃ LS, LS = (b.log.entries.take m).map (leafH b.width) := ⟨_, rfl⟩
 have hLL : LS.length = m := by rw [hLS, List.length_map, List.length_take]; omega
 rw [← hLS] at LI LV ZP
 rw [← HWD.out] at ZP LI
 obtain ⟨IP, hIP⟩ : ∃ IP, IP = inclN wd 512 LS j := ⟨_, rfl⟩
 rw [← hIP] at ZP
 have IN : Hid (∀ (W : World) (V : Option Addr) (c : Nat), SlF AnyB sone 1 W V LS c → Calls Tryz.prog 179 #[.int .i64 wd, .slice V m c, .int .i64 (j : Int)] W fun e w' => ∃ v, e = .returned v ∧ RowT W.heap.size w' v IP ∧ Ext W w') := hU (fun W V c h => by rw [hIP, ← hLL]; exact inclusion_any wd hwd 512 LS V c j W (by omega) (by omega) (by omega) h LI.out)
 clear hIP LI
 obtain ⟨LE, hLE⟩ : ∃ LE, LE = b.log.entries.length := ⟨_, rfl⟩
 have c0' : w.cell? ⟨g, 0, none⟩ = some (.int .i64 wd) := by rw [HWD.out]; exact c0
 have c1' : w.cell? ⟨g, 1, none⟩ = some (.slice (some ⟨b0, off, none⟩) LE a0) := by rw [hLE]; exact c1
 rw [← hLE] at hm hle
 have hjl : j < LE := by omega
 have d1 : decide ((j : Int) < 0) = false := decide_eq_false hk0
 have d2 : decide ((m : Int) ≤ (j : Int)) = false := decide_eq_false hkn
 have d3 : decide (m ≤ j) = false := decide_eq_false (by omega)
 have K0h := hU K0
 clear c0 c1 hc hdl hd hk0 hkn hLS hLE HSZ INC OK0 ph HE X4 X5 KB HWD
 have E2 := hU E1
 clear E1 K0
 go_upto_region 5 with fail
 refine wp_region_held_drew (S := fun w' => (∃ ds : Array Value, ds.size = 5 ∧ Blk w' q 46 ds) ∧ Ext w w') (by kernel_rfl) ⟨⟨_, rfl, K0h.out.drew⟩, E2.out.drew⟩ (fun hH => ?_)
 refine takeQ 0 (.pointer (some ⟨g, 0, none⟩)) (some 22) rfl rfl (by kernel_rfl) (Or.inl ⟨by rfl, ?yb1⟩) hH ?rb1
 case yb1 => intro w' hS'; go_simp; try with_reducible rfl
 try simp only [zA]
 refine takeQ 1 (.pointer (some ⟨g, 0, none⟩)) (some 23) rfl rfl (by kernel_rfl) (Or.inl ⟨by rfl, ?yb2⟩) hH ?rb2
 case yb2 => intro w' hS'; go_simp; try with_reducible rfl
 try simp only [zA]
 refine takeQ 2 (.pointer (some ⟨g, 1, none⟩)) (some 24) rfl rfl (by kernel_rfl) (Or.inl ⟨by rfl, ?yb3⟩) hH ?rb3
 case yb3 => intro w' hS'; go_simp; try with_reducible rfl
 try simp only [zA]
 refine takeQ 3 (.pointer (some ⟨g, 1, none⟩)) (some 25) rfl rfl (by kernel_rfl) (Or.inl ⟨by rfl, ?yb4⟩) hH ?rb4
 case yb4 => intro w' hS'; go_simp; try with_reducible rfl
 try simp only [zA]
 refine takeQ 4 (.slice (some ⟨b0, off, none⟩) LE a0) (some 26) rfl rfl (by kernel_rfl) (Or.inl ⟨by rfl, ?yb5⟩) hH ?rb5
 case yb5 => intro w' hS'; have x0 := (hS'.2.cell (p := ⟨g, 0, none⟩) hg2).trans c0'; have x1 := (hS'.2.cell (p := ⟨g, 1, none⟩) hg2).trans c1'; have z0 := (hS'.2.cell (p := ⟨b0, off + j * 5, none⟩) hb0).trans y0; have z1 := (hS'.2.cell (p := ⟨b0, off + j * 5 + 1, none⟩) hb0).trans y1; have z2 := (hS'.2.cell (p := ⟨b0, off + j * 5 + 2, none⟩) hb0).trans y2; have z3 := (hS'.2.cell (p := ⟨b0, off + j * 5 + 3, none⟩) hb0).trans y3; have z4 := (hS'.2.cell (p := ⟨b0, off + j * 5 + 4, none⟩) hb0).trans y4; go_simp; try with_reducible rfl
 try simp only [zA]
 refine takeQ 5 (.int .i64 (j : Int)) (some 27) rfl rfl (by kernel_rfl) (Or.inl ⟨by rfl, ?yb6⟩) hH ?rb6
 case yb6 => intro w' hS'; have x0 := (hS'.2.cell (p := ⟨g, 0, none⟩) hg2).trans c0'; have x1 := (hS'.2.cell (p := ⟨g, 1, none⟩) hg2).trans c1'; have z0 := (hS'.2.cell (p := ⟨b0, off + j * 5, none⟩) hb0).trans y0; have z1 := (hS'.2.cell (p := ⟨b0, off + j * 5 + 1, none⟩) hb0).trans y1; have z2 := (hS'.2.cell (p := ⟨b0, off + j * 5 + 2, none⟩) hb0).trans y2; have z3 := (hS'.2.cell (p := ⟨b0, off + j * 5 + 3, none⟩) hb0).trans y3; have z4 := (hS'.2.cell (p := ⟨b0, off + j * 5 + 4, none⟩) hb0).trans y4; go_simp; try with_reducible rfl
 try simp only [zA]
 refine takeQ 6 (.pointer (some ⟨b0, off + j * 5, none⟩)) (some 28) rfl rfl (by kernel_rfl) (Or.inl ⟨by rfl, ?yb7⟩) hH ?rb7
 case yb7 => intro w' hS'; go_simp; try with_reducible rfl
 try simp only [zA]
 refine takeQ 7 (.agg #[.string d.topic, .int .i64 d.index, .int .i64 d.time, .string d.key, .string d.body]) (some 29) rfl rfl (by kernel_rfl) (Or.inl ⟨by rfl, ?yb8⟩) hH ?rb8
 case yb8 => intro w' hS'; have x0 := (hS'.2.cell (p := ⟨g, 0, none⟩) hg2).trans c0'; have x1 := (hS'.2.cell (p := ⟨g, 1, none⟩) hg2).trans c1'; have z0 := (hS'.2.cell (p := ⟨b0, off + j * 5, none⟩) hb0).trans y0; have z1 := (hS'.2.cell (p := ⟨b0, off + j * 5 + 1, none⟩) hb0).trans y1; have z2 := (hS'.2.cell (p := ⟨b0, off + j * 5 + 2, none⟩) hb0).trans y2; have z3 := (hS'.2.cell (p := ⟨b0, off + j * 5 + 3, none⟩) hb0).trans y3; have z4 := (hS'.2.cell (p := ⟨b0, off + j * 5 + 4, none⟩) hb0).trans y4; go_simp; try with_reducible rfl
 try simp only [zA]
 refine takeQ 8 (.pointer (some ⟨g, 0, none⟩)) (some 30) rfl rfl (by kernel_rfl) (Or.inl ⟨by rfl, ?yb9⟩) hH ?rb9
 case yb9 => intro w' hS'; go_simp; try with_reducible rfl
 try simp only [zA]
 refine takeQ 9 (.pointer (some ⟨g, 0, none⟩)) (some 31) rfl rfl (by kernel_rfl) (Or.inl ⟨by rfl, ?yb10⟩) hH ?rb10
 case yb10 => intro w' hS'; go_simp; try with_reducible rfl
 try simp only [zA]
 refine takeQ 10 (.pointer (some ⟨g, 0, none⟩)) (some 32) rfl rfl (by kernel_rfl) (Or.inl ⟨by rfl, ?yb11⟩) hH ?rb11
 case yb11 => intro w' hS'; go_simp; try with_reducible rfl
 try simp only [zA]
 refine takeQ 11 (.int .i64 wd) (some 33) rfl rfl (by kernel_rfl) (Or.inl ⟨by rfl, ?yb12⟩) hH ?rb12
 case yb12 => intro w' hS'; have x0 := (hS'.2.cell (p := ⟨g, 0, none⟩) hg2).trans c0'; have x1 := (hS'.2.cell (p := ⟨g, 1, none⟩) hg2).trans c1'; have z0 := (hS'.2.cell (p := ⟨b0, off + j * 5, none⟩) hb0).trans y0; have z1 := (hS'.2.cell (p := ⟨b0, off + j * 5 + 1, none⟩) hb0).trans y1; have z2 := (hS'.2.cell (p := ⟨b0, off + j * 5 + 2, none⟩) hb0).trans y2; have z3 := (hS'.2.cell (p := ⟨b0, off + j * 5 + 3, none⟩) hb0).trans y3; have z4 := (hS'.2.cell (p := ⟨b0, off + j * 5 + 4, none⟩) hb0).trans y4; go_simp; try with_reducible rfl
 try simp only [zA]
 refine takeQ 12 (.pointer (some ⟨g, 0, none⟩)) (some 34) rfl rfl (by kernel_rfl) (Or.inl ⟨by rfl, ?yb13⟩) hH ?rb13
 case yb13 => intro w' hS'; go_simp; try with_reducible rfl
 try simp only [zA]
 refine takeQ 13 (.int .i64 (m : Int)) (some 35) rfl rfl (by kernel_rfl) (Or.inl ⟨by rfl, ?yb14⟩) hH ?rb14
 case yb14 => intro w' hS'; have x0 := (hS'.2.cell (p := ⟨g, 0, none⟩) hg2).trans c0'; have x1 := (hS'.2.cell (p := ⟨g, 1, none⟩) hg2).trans c1'; have z0 := (hS'.2.cell (p := ⟨b0, off + j * 5, none⟩) hb0).trans y0; have z1 := (hS'.2.cell (p := ⟨b0, off + j * 5 + 1, none⟩) hb0).trans y1; have z2 := (hS'.2.cell (p := ⟨b0, off + j * 5 + 2, none⟩) hb0).trans y2; have z3 := (hS'.2.cell (p := ⟨b0, off + j * 5 + 3, none⟩) hb0).trans y3; have z4 := (hS'.2.cell (p := ⟨b0, off + j * 5 + 4, none⟩) hb0).trans y4; go_simp; try with_reducible rfl
 try simp only [zA]
 refine takeQ 15 (.int .i64 (j : Int)) (some 37) rfl rfl (by kernel_rfl) (Or.inl ⟨by rfl, ?yb15⟩) hH ?rb15
 case yb15 => intro w' hS'; have x0 := (hS'.2.cell (p := ⟨g, 0, none⟩) hg2).trans c0'; have x1 := (hS'.2.cell (p := ⟨g, 1, none⟩) hg2).trans c1'; have z0 := (hS'.2.cell (p := ⟨b0, off + j * 5, none⟩) hb0).trans y0; have z1 := (hS'.2.cell (p := ⟨b0, off + j * 5 + 1, none⟩) hb0).trans y1; have z2 := (hS'.2.cell (p := ⟨b0, off + j * 5 + 2, none⟩) hb0).trans y2; have z3 := (hS'.2.cell (p := ⟨b0, off + j * 5 + 3, none⟩) hb0).trans y3; have z4 := (hS'.2.cell (p := ⟨b0, off + j * 5 + 4, none⟩) hb0).trans y4; go_simp; try with_reducible rfl
 try simp only [zA]
 refine oneH 14 (oi := _) (some 36) (by kernel_rfl) rfl rfl rfl (fun K' hK => ?_)
 refine ⟨?_⟩
 rw [if_pos (by rfl)]
 go_simp
 refine (LV.out _ hH.2).mono ?_
 rintro e w3 ⟨v1, rfl, ho, h1⟩
 obtain ⟨V1, v1c, hv1, sf⟩ := slf_own ho
 rw [hLL] at hv1
 subst hv1
 have HV := hU sf.any
 clear ho sf
 refine hK.out _ _ ⟨_, rfl⟩ (⟨(by obtain ⟨ds, d1, d2⟩ := hH.1; exact ⟨ds, d1, d2.ext h1⟩), hH.2.next h1⟩) (fun hH2 => ?_)
 clear hK K' hH h1
 have hH := hH2
 clear hH2
 try simp only [zB]
 refine oneH 16 (oi := _) (some 38) (by kernel_rfl) rfl rfl rfl (fun K' hK => ?_)
 refine ⟨?_⟩
 rw [if_pos (by rfl)]
 go_simp
 refine (IN.out _ _ _ HV.out).mono ?_
 rintro e w4 ⟨v2, rfl, ho, h1⟩
 have hq3 : q < w3.heap.size := by obtain ⟨ds, d1, d2⟩ := hH.1; exact d2.lt
 have hs3 := hH.2.size
 have HO := hU ho
 clear ho
 refine hK.out _ _ ⟨_, rfl⟩ (⟨(by obtain ⟨ds, d1, d2⟩ := hH.1; exact ⟨ds, d1, d2.ext h1⟩), hH.2.next h1⟩) (fun hH2 => ?_)
 clear hK K' hH h1
 have hH := hH2
 clear hH2
 try simp only [zB]
 refine oneH 17 (oi := _) none (by kernel_rfl) rfl rfl rfl (fun K' hK => ?_)
 refine ⟨?_⟩; rw [if_pos (by rfl)]
 refine wp_store_lst 46 _ _ (by rfl) (by rfl) q 0 [.string d.topic, .int .i64 d.index, .int .i64 d.time, .string d.key, .string d.body] (by rfl) (by rfl) (by obtain ⟨ds, d1, d2⟩ := hH.1; exact d2.there 0 5 (by omega)) (by kernel_rfl) (by rfl) ?_
 have bz : Blk (w4.setCells q 0 [.string d.topic, .int .i64 d.index, .int .i64 d.time, .string d.key, .string d.body]) q 46 #[.string d.topic, .int .i64 d.index, .int .i64 d.time, .string d.key, .string d.body] := by
  obtain ⟨ds, d1, d2⟩ := hH.1
  exact d2.put 0 [.string d.topic, .int .i64 d.index, .int .i64 d.time, .string d.key, .string d.body] #[.string d.topic, .int .i64 d.index, .int .i64 d.time, .string d.key, .string d.body] (by rw [d1]; simp) (by rw [List.take_zero, List.nil_append, List.drop_eq_nil_of_le (by rw [Array.length_toList, d1]; simp), List.append_nil])
 have BZ := hU bz
 have HX := hU (ext_setCells (W := w) hqw [.string d.topic, .int .i64 d.index, .int .i64 d.time, .string d.key, .string d.body] 0 _ hH.2)
 have hn : (∃ ds : Array Value, ds.size = 5 ∧ Blk (w4.setCells q 0 [.string d.topic, .int .i64 d.index, .int .i64 d.time, .string d.key, .string d.body]) q 46 ds) ∧ Ext w (w4.setCells q 0 [.string d.topic, .int .i64 d.index, .int .i64 d.time, .string d.key, .string d.body]) := ⟨⟨_, rfl, bz⟩, HX.out⟩
 clear bz
 have HR := hU (show RowT w.heap.size (w4.setCells q 0 [.string d.topic, .int .i64 d.index, .int .i64 d.time, .string d.key, .string d.body]) v2 _ from row_away HO.out hq3 hs3 [.string d.topic, .int .i64 d.index, .int .i64 d.time, .string d.key, .string d.body] 0)
 refine hK.out _ _ ⟨undef, rfl⟩ (hn) (fun hH2 => ?_)
 clear hK K' hH
 have hH := hH2
 clear hH2
 try simp only [zB]
 refine takeQ 18 (v2) (some 7) rfl rfl (by kernel_rfl) (Or.inl ⟨by rfl, ?yb16⟩) hH ?rb16
 case yb16 => intro w' hS'; have x0 := (hS'.2.cell (p := ⟨g, 0, none⟩) hg2).trans c0'; have x1 := (hS'.2.cell (p := ⟨g, 1, none⟩) hg2).trans c1'; have z0 := (hS'.2.cell (p := ⟨b0, off + j * 5, none⟩) hb0).trans y0; have z1 := (hS'.2.cell (p := ⟨b0, off + j * 5 + 1, none⟩) hb0).trans y1; have z2 := (hS'.2.cell (p := ⟨b0, off + j * 5 + 2, none⟩) hb0).trans y2; have z3 := (hS'.2.cell (p := ⟨b0, off + j * 5 + 3, none⟩) hb0).trans y3; have z4 := (hS'.2.cell (p := ⟨b0, off + j * 5 + 4, none⟩) hb0).trans y4; go_simp; try with_reducible rfl
 try simp only [zA]
 refine takeQ 19 (.int .i64 0) (some 8) rfl rfl (by kernel_rfl) (Or.inl ⟨by rfl, ?yb17⟩) hH ?rb17
 case yb17 => intro w' hS'; have x0 := (hS'.2.cell (p := ⟨g, 0, none⟩) hg2).trans c0'; have x1 := (hS'.2.cell (p := ⟨g, 1, none⟩) hg2).trans c1'; have z0 := (hS'.2.cell (p := ⟨b0, off + j * 5, none⟩) hb0).trans y0; have z1 := (hS'.2.cell (p := ⟨b0, off + j * 5 + 1, none⟩) hb0).trans y1; have z2 := (hS'.2.cell (p := ⟨b0, off + j * 5 + 2, none⟩) hb0).trans y2; have z3 := (hS'.2.cell (p := ⟨b0, off + j * 5 + 3, none⟩) hb0).trans y3; have z4 := (hS'.2.cell (p := ⟨b0, off + j * 5 + 4, none⟩) hb0).trans y4; go_simp; try with_reducible rfl
 try simp only [zA]
 refine wpAnyH_done (by kernel_rfl) ?_ _
 go_wp2_with fail
 exact ret_ent rfl rfl BZ.out Tryz.underlying46 rfl (by kernel_rfl) rfl ⟨v2, d, ZD.out, by rw [E.out]; rfl, by rw [ZP.out]; exact HR.out, HX.out⟩
theorem fetch_any (b : BrokerD) (t : ByteArray) (ix n : Int) (A0 : Option Addr) (a0 : Nat) (A1 : Option Addr) (a1 : Nat) (A2 : Option Addr) (a2 : Nat) (A3 : Option Addr) (a3 : Nat) (A4 : Option Addr) (a4 : Nat) (g : Nat) (w : World) (hb : Blk w g 59 (brkV b A0 a0 A1 a1 A2 a2 A3 a3 A4 a4).toArray) (he : SlF AnyB EntryD.cells 5 w A0 b.log.entries a0) (hh : SlF AnyB HeadD.cells 5 w A2 b.heads a2) (ok0 : ∀ x ∈ b.log.entries, x.Ok) (hB : brokerB b = true) :
 Calls Tryz.prog 52 #[.pointer (some ⟨g, 0, none⟩), .string t, .int .i64 ix, .int .i64 n] w (FtAns (ftAE b t ix n) (ftAL b t ix n) (lfAP b (ftIx b t ix) n) (lfCode b (ftIx b t ix) n) w) := by
 obtain ⟨hwd, hle, _, _, _, _, _, _⟩ := broker_parts hB
 have K0 := Blk.new w 46 #[.string ⟨#[]⟩, .int .i64 0, .int .i64 0, .string ⟨#[]⟩, .string ⟨#[]⟩]
 have E1 := Ext.new (Below.refl w.heap.size w) (.cells #[.string ⟨#[]⟩, .int .i64 0, .int .i64 0, .string ⟨#[]⟩, .string ⟨#[]⟩] 46)
 have hg := hb.lt
 have LP := hU (fun (W : World) (h : Ext w W) => leafProof_any b A0 a0 A1 a1 A2 a2 A3 a3 A4 a4 g (ftIx b t ix) n W (hb.ext h) (he.ext h) (hh.ext h) ok0 hB)
 have LO : Hid (∀ W : World, Ext w W → Calls Tryz.prog 110 #[.agg #[.slice A0 b.log.entries.length a0], .string t, .int .i64 ix] W fun e w' => e = .returned (.int .i64 (ftIx b t ix)) ∧ Ext W w') := hU (fun W h => leafOf_any A0 a0 b.log.entries t ix W (he.ext h).reads (by omega))
 have x1 : (w.alloc (.cells #[.string ⟨#[]⟩, .int .i64 0, .int .i64 0, .string ⟨#[]⟩, .string ⟨#[]⟩] 46)).cell? ⟨g, 1, none⟩ = some (.slice A0 b.log.entries.length a0) := (hb.ext E1).cell 1
 have TG := hU (fun h => lfA_good (b := b) (k := ftIx b t ix) (n := n) h); have TW := hU (fun h => lfA_bad (b := b) (k := ftIx b t ix) (n := n) h)
 have TL := hU (show ftAL b t ix n = if lfCode b (ftIx b t ix) n = 0 then ftIx b t ix else 0 from rfl)
 have TA := hU (show ftAE b t ix n = lfAE b (ftIx b t ix) n from rfl)
 obtain ⟨LE, hLE⟩ : ∃ LE, LE = b.log.entries.length := ⟨_, rfl⟩
 obtain ⟨x, hx⟩ : ∃ x, x = ftIx b t ix := ⟨_, rfl⟩
 rw [← hLE] at LO x1 hle
 rw [← hx] at LP LO TG TW TL TA
 rw [← hx]
 clear hb he hh ok0 hB hwd hLE hx
 obtain ⟨q, hq⟩ : ∃ q, q = w.heap.size := ⟨_, rfl⟩
 go_enter Tryz.func52, Tryz.ntmps52
 go_upto_region 1 with fail
 rw [← hq] at K0
 rw [← hq]
 obtain ⟨w1, hw1⟩ : ∃ w1, w1 = w.alloc (.cells #[.string ⟨#[]⟩, .int .i64 0, .int .i64 0, .string ⟨#[]⟩, .string ⟨#[]⟩] 46) := ⟨_, rfl⟩
 rw [← hw1] at K0 E1 x1
 rw [← hw1]
 have hqw : w.heap.size ≤ q := by omega
 clear hw1 hq
 go_wp2_with fail
 refine (LO.out _ E1).mono ?_
 rintro e w2 ⟨rfl, h1⟩
 replace K0 := K0.ext h1; replace E1 := E1.next h1
 clear h1 LO x1
 go_wp2_with fail
 refine (LP.out _ E1).mono ?_
 rintro e w3 ⟨v, d, hd, rfl, hr, h1⟩
 have hq2 := K0.lt
 have hs2 := E1.size
 have HD := hU hd
 obtain ⟨cc, hcc⟩ : ∃ cc, cc = lfCode b x n := ⟨_, rfl⟩
 rw [← hcc] at TG TW TL
 rw [← hcc]
 have HC := hU hcc.symm
 have K1 := K0.ext h1; have E2 := E1.next h1
 have KA := K1.alloc (.cells #[.string d.topic, .int .i64 d.index, .int .i64 d.time, .string d.key, .string d.body] 46)
 have EA := E2.new (.cells #[.string d.topic, .int .i64 d.index, .int .i64 d.time, .string d.key, .string d.body] 46)
 have HR := hU (ownsRow_ext hr (Ext.new (Below.refl w3.heap.size w3) (.cells #[.string d.topic, .int .i64 d.index, .int .i64 d.time, .string d.key, .string d.body] 46)))
 obtain ⟨r0, m0⟩ := KA.rules
 clear h1 LP K0 E1 hd K1 E2 hr hcc
 by_cases h0 : cc = 0
 · subst h0
   have TX := hU (show ftAL b t ix n = x by rw [TL.out]; exact if_pos rfl)
   have X4 := hU (KA.put 0 [.string d.topic, .int .i64 d.index, .int .i64 d.time, .string d.key, .string d.body] #[.string d.topic, .int .i64 d.index, .int .i64 d.time, .string d.key, .string d.body] (by simp) rfl)
   have X5 := hU (ext_setCells (W := w) hqw [.string d.topic, .int .i64 d.index, .int .i64 d.time, .string d.key, .string d.body] 0 _ EA)
   have X6 := hU (row_away (B := w.heap.size) HR.out hq2 hs2 [.string d.topic, .int .i64 d.index, .int .i64 d.time, .string d.key, .string d.body] 0)
   clear KA EA HR
   go_wp2_with fail
   exact ret_en3 rfl rfl X4.out Tryz.underlying46 rfl (by kernel_rfl) rfl ⟨v, d, by rw [TA.out]; exact HD.out, by rw [HC.out, TX.out]; rfl, X6.out, X5.out⟩
 · have X4 := hU (KA.put 0 [.string ⟨#[]⟩, .int .i64 0, .int .i64 0, .string ⟨#[]⟩, .string ⟨#[]⟩] #[.string ⟨#[]⟩, .int .i64 0, .int .i64 0, .string ⟨#[]⟩, .string ⟨#[]⟩] (by simp) rfl)
   have X5 := hU (ext_setCells (W := w) hqw [.string ⟨#[]⟩, .int .i64 0, .int .i64 0, .string ⟨#[]⟩, .string ⟨#[]⟩] 0 _ EA)
   have z0 : ((cc : Int) == 0) = false := beq_false_of_ne (by omega)
   have z1 : ((cc : Int) != 0) = true := by rw [bne, z0]; rfl
   have z2 : ¬ ((cc : Int) = 0) := by omega
   have H0 := hU h0
   have TX := hU (show ftAL b t ix n = 0 by rw [TL.out]; exact if_neg h0)
   clear KA EA HR
   go_wp2_with fail
   exact ret_en3 rfl rfl X4.out Tryz.underlying46 rfl (by kernel_rfl) rfl ⟨.slice none 0 0, zE, by rw [TA.out]; exact (TW.out H0.out).1.symm, by rw [HC.out, TX.out]; rfl, by rw [(TW.out H0.out).2]; exact World.ownsRow_nil _ _ _ _, X5.out⟩
end Go.Proofs.YtlgdghpnfclgpaaGreat

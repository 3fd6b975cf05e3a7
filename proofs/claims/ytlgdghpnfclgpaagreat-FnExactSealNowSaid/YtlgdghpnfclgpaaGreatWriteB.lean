/-
  Recs; LeafAt; Recs2; WriteB: No condition.
-/
import Derived.Test.YtlgdghpnfclgpaaGreatLogOks
import Derived.Test.YtlgdghpnfclgpaaGreatMapRec
import Derived.WideKeyEntry
import Derived.Test.YtlgdghpnfclgpaaGreatTextsB
namespace Go.Proofs.YtlgdghpnfclgpaaGreat
set_option maxHeartbeats 2000000
set_option maxRecDepth 100000
set_option linter.unusedSimpArgs false
open Go.RowKit Go.WideMaps Go.Maps
set_option linter.unusedVariables false
theorem recAt_eq {l : List ReceiptD} {k : Nat} {d : ReceiptD} (hd : l[k]? = some d) : recAt l k = (receiptOk d && !((l.take k).any fun x => x.eqb d)) := by
 rw [recAt, hd]
 simp only
 congr 1
 cases h : (l.take k).any fun x => x.eqb d
 · have hn : ∀ y ∈ l.take k, (fun x : ReceiptD => x.eqb d) y = false := by
    intro y hy
    have := List.any_eq_false.1 h y hy
    simpa using this
   rw [idxB_at (p := fun x : ReceiptD => x.eqb d) hd (ReceiptD.eqb_self d) hn]; simp
 · obtain ⟨x, hx, hp⟩ := List.any_eq_true.1 h
   simp only [Bool.not_true, beq_eq_false_iff_ne, ne_eq]
   intro e
   obtain ⟨_, _, _, h3⟩ := idxB_spec e
   have := h3 x hx
   rw [hp] at this; cases this
def seenF (l : List ReceiptD) (t : ReceiptD) : Option Nat := if l.any (fun x => x.eqb t) then some 1 else none
theorem seenF_nil : seenF [] = fun _ => none := rfl
theorem seenF_get (l : List ReceiptD) (t : ReceiptD) : (seenF l t).getD 0 = if l.any (fun x => x.eqb t) then 1 else 0 := by
 unfold seenF; split <;> rfl
theorem seenF_next {l : List ReceiptD} {k : Nat} {d : ReceiptD} (hd : l[k]? = some d) : rput (seenF (l.take k)) d 1 = seenF (l.take (k + 1)) := by
 obtain ⟨hk, rfl⟩ := List.getElem?_eq_some_iff.1 hd
 funext t
 unfold rput seenF
 rw [List.take_succ_eq_append_getElem hk, List.any_append]
 simp only [List.any_cons, List.any_nil, Bool.or_false]
 cases e : t.eqb l[k]
 · have : l[k].eqb t = false := by
    cases e2 : l[k].eqb t
    · rfl
    · rw [(ReceiptD.eqb_iff _ _).1 e2, ReceiptD.eqb_self] at e; cases e
   rw [this]; simp
 · have : l[k].eqb t = true := by rw [(ReceiptD.eqb_iff _ _).1 e, ReceiptD.eqb_self]
   rw [this]; simp
theorem recLaw : KeyLaw Tryz.prog 77 := deep_law_laid (by kernel_rfl) (m := 2) (by omega) (of_decide_eq_true (by kernel_rfl)) (by kernel_rfl) (by rw [Tryz.underlying77])
theorem intZero (w : World) : (zeroValue 3).run Tryz.prog w = .ok (.int .i64 0) w := by kernel_rfl
theorem MapAtR.entry {w : World} {B n q : Nat} {f : ReceiptD → Option Nat} (h : MapAtR w B n f) (s : ReceiptD) (hs : s.Ok) (hn : n < maxLen) (hq : q ≤ 1099511627776) :
 ∃ v0 st w1, (Instr.mapEntry 192 (.map (some B)) (.agg #[.string s.reader, .string s.topic, .int .i64 s.index])).run Tryz.prog w = .ok (.tuple #[v0, .int .i64 st]) w1 ∧
  ∃ w2, (Instr.entryStore 192 (.map (some B)) (.int .i64 st) (.int .i64 (q : Int))).run Tryz.prog w1 = .ok () w2 ∧ MapAtR w2 B (n + 1) (rput f s q) ∧ w.grownBy w2 (some B) := by
 obtain ⟨D, h, k⟩ := h
 have wf : (Lit.int .i64 (q : Int)).wf = true := WalkArith.wf_i64 (by omega)
 obtain ⟨w', hrun, r1, r2⟩ := h.update recKeyed Tryz.underlying192 hn (rkey_of s hs) (plainElem_int Tryz.underlying3 wf)
 have h0 := h
 obtain ⟨es, clock, hb, F, _, _⟩ := h0
 obtain ⟨v0, st, es1, clock1, e1, _, e2⟩ := WideElems.entry_then_store recLaw Tryz.underlying192 (z := .int .i64 0) intZero hb F (rkey_of s hs)
 obtain ⟨es', clock', e3, e4⟩ := e2 (ChangeMaps.setBlock w B (.map es1 clock1)) (.int .i64 (q : Int)) (ChangeMaps.heap_setBlock_same hb _)
 rw [hrun] at e4
 have e5 : w' = ChangeMaps.setBlock w B (.map es' clock') := by cases e4; rfl
 refine ⟨v0, (st : Int), _, e1, w', ?_, MapAtR.put hs k h.isMap r1, r2⟩
 have e6 : ChangeMaps.setBlock (ChangeMaps.setBlock w B (.map es1 clock1)) B (.map es' clock') = ChangeMaps.setBlock w B (.map es' clock') := by
  simp [ChangeMaps.setBlock]
 rw [e6, ← e5] at e3
 exact e3
theorem MapAtR.entry1 {w w1 : World} {B n : Nat} {f : ReceiptD → Option Nat} {v : Value} (h : MapAtR w B n f) (s : ReceiptD) (hs : s.Ok) (hn : n < maxLen) (hf : (f s).getD 0 = 0)
 (hrun : (Instr.mapEntry 192 (.map (some B)) (.agg #[.string s.reader, .string s.topic, .int .i64 s.index])).run Tryz.prog w = .ok v w1) :
 (Instr.lookup 192 (.map (some B)) (.agg #[.string s.reader, .string s.topic, .int .i64 s.index]) false).run Tryz.prog w1 = .ok (.int .i64 0) w1 := by
 have hh := h
 obtain ⟨D, h, k⟩ := h
 obtain ⟨w', hup, r1, r2⟩ := h.update recKeyed Tryz.underlying192 hn (rkey_of s hs) (plainElem_int Tryz.underlying3 (a := 0) (by decide))
 have hM := h.isMap
 have h0 := h
 obtain ⟨es, clock, hb, F, _, _⟩ := h0
 have hkey := rkey_of s hs
 rcases recLaw.find w hkey es.toList F.keys with ⟨h1, h2⟩ | ⟨j, e0, h1, h2, h3⟩
 · have e1 : (Instr.mapEntry 192 (.map (some B)) (rval s)).run Tryz.prog w = .ok (.tuple #[.int .i64 0, goInt clock]) (ChangeMaps.setBlock w B (.map (es.push ⟨rval s, .int .i64 0, clock⟩) (clock + 1))) := by
    simp [Instr.mapEntry, run_underlying Tryz.underlying192, MapKept.run_getObj_map hb, recLaw.check w false hkey, h1, intZero, MapKept.run_setObj_map _ hb, Result.andThen, ChangeMaps.setBlock]
   have e2 : (Instr.mapUpdate 192 (.map (some B)) (rval s) (.int .i64 0)).run Tryz.prog w = .ok () (ChangeMaps.setBlock w B (.map (es.push ⟨rval s, .int .i64 0, clock⟩) (clock + 1))) := by
    simp [Instr.mapUpdate, run_underlying Tryz.underlying192, MapKept.run_getObj_map hb, recLaw.check w false hkey, h1, MapKept.run_setObj_map _ hb, Result.andThen, ChangeMaps.setBlock]
   have a1 : w1 = ChangeMaps.setBlock w B (.map (es.push ⟨rval s, .int .i64 0, clock⟩) (clock + 1)) := by
    rw [show (.agg #[.string s.reader, .string s.topic, .int .i64 s.index] : Value) = rval s from rfl, e1] at hrun
    cases hrun; rfl
   have a2 : w' = w1 := by rw [e2] at hup; rw [a1]; cases hup; rfl
   subst a2
   have M := MapAtR.put (m := 0) hs k hM r1
   have := M.look1 s hs
   simpa [rput, ReceiptD.eqb_self] using this
 · have hj : es[j]? = some e0 := by simpa using h2
   have e1 : (Instr.mapEntry 192 (.map (some B)) (rval s)).run Tryz.prog w = .ok (.tuple #[e0.val, goInt e0.born]) w := by
    have hsame : es.modify j (fun e => { e with key := rval s }) = es := by
     apply Array.ext'
     rw [Array.toList_modify, ChangeMaps.modify_eq_set _ _ _ _ h2]
     have : ({ e0 with key := rval s } : MapEntry) = e0 := by rw [← h3]
     rw [this]
     exact WideElems.set_self _ _ _ h2
    have hself : ({ w with heap := w.heap.setIfInBounds B (.map es clock) } : World) = w := by
     have : w.heap.setIfInBounds B (.map es clock) = w.heap := by
      apply Array.ext_getElem?
      intro i
      rw [Array.getElem?_setIfInBounds]
      split
      · rename_i e; subst e; split
        · exact hb.symm
        · rename_i hlt; rw [Array.getElem?_eq_none (by omega)]
      · rfl
     rw [this]
    simp [Instr.mapEntry, run_underlying Tryz.underlying192, MapKept.run_getObj_map hb, recLaw.check w false hkey, h1, hj, h3, recLaw.stays w hkey, hsame, MapKept.run_setObj_map _ hb, Result.andThen, hself]
   have a1 : w1 = w := by
    rw [show (.agg #[.string s.reader, .string s.topic, .int .i64 s.index] : Value) = rval s from rfl, e1] at hrun
    cases hrun; rfl
   subst a1
   have := hh.look1 s hs
   rw [hf] at this
   exact this
theorem twoH {P : Program} {md : Region.Mode} {ops : Array Oper} {Q : Exit → Act → World → Prop} {S : World → Prop} (i j : Nat) {oi oj : Oper} {fuel : Nat} {listed : Array Bool} {a : Act} {w : World} (d e : Option Tmp) (hr : Region.ready md ops listed = [i, j])
 (hi : ops[i]? = some oi) (hg : oi.guard = none) (hd : oi.dst = d) (hj : ops[j]? = some oj) (hgj : oj.guard = none) (hdj : oj.dst = e)
 (h : ∀ K' : Act → World → Prop, Shut (∀ a' w', (∃ v, a' = a.put d v) → S w' → (S w' → wpAnyH P md ops Q S fuel (listed.setIfInBounds i true) a' w') → K' a' w') → StepG (if Region.wanted oi (yielded ops a.tmps) = true then Oper.wp P oi a w K' Q else K' (a.put oi.dst undef) w))
 (h' : ∀ K' : Act → World → Prop, Shut (∀ a' w', (∃ v, a' = a.put e v) → S w' → (S w' → wpAnyH P md ops Q S fuel (listed.setIfInBounds j true) a' w') → K' a' w') → StepG (if Region.wanted oj (yielded ops a.tmps) = true then Oper.wp P oj a w K' Q else K' (a.put oj.dst undef) w)) : wpAnyH P md ops Q S (fuel + 1) listed a w := by
 refine wpAnyH_all hr (by simp) fun x hx => ?_
 rcases List.mem_cons.1 hx with rfl | hx
 · unfold wpOp
   simp only [hi]
   have hw : Region.wanted oi (yielded ops a.tmps) = true := by simp [Region.wanted, hg]
   rw [if_pos hw]
   have h2 := h (fun a' w' => S w' ∧ wpAnyH P md ops Q S fuel (listed.setIfInBounds x true) a' w') fun a' w' _ hS hW => ⟨hS, hW hS⟩
   replace h2 := h2.out
   rw [if_pos hw] at h2
   exact .inl h2
 · obtain rfl : x = j := by simpa using hx
   unfold wpOp
   simp only [hj]
   have hw : Region.wanted oj (yielded ops a.tmps) = true := by simp [Region.wanted, hgj]
   rw [if_pos hw]
   have h2 := h' (fun a' w' => S w' ∧ wpAnyH P md ops Q S fuel (listed.setIfInBounds x true) a' w') fun a' w' _ hS hW => ⟨hS, hW hS⟩
   replace h2 := h2.out
   rw [if_pos hw] at h2
   exact .inl h2
theorem MapAtR.drew {w : World} {B n : Nat} {f : ReceiptD → Option Nat} (h : MapAtR w B n f) : MapAtR w.drew B n f := h
theorem implReceiptsOk_any (A : Option Addr) (c : Nat) (l : List ReceiptD) (w : World) (hr : SlF AnyB ReceiptD.cells 3 w A l c) (hok : ∀ d ∈ l, d.Ok) :
 Calls Tryz.prog 80 #[.slice A l.length c] w fun e w' => e = .returned (.bool (recsOk l)) ∧ Ext w w' := by
 have HR := hU hr
 have Hok := hU hok
 have hlm := hr.len
 unfold maxLen at hlm
 obtain ⟨fin, hfin⟩ : ∃ fin, fin = recsOk l := ⟨_, rfl⟩
 rw [← hfin]
 by_cases h5 : l.length ≤ 512
 case neg =>
  have E := hU (show fin = false by rw [hfin, recsOk, decide_eq_false h5]; rfl)
  have h6 : (512 : Int) < (l.length : Int) := by omega
  clear hfin
  go_enter Tryz.func80, Tryz.ntmps80
  go_wp2_with fail
  go_ret
  exact ⟨ret_bool E.out.symm, Below.refl w.heap.size w⟩
 have F := hU (show fin = allTo (recAt l) l.length by rw [hfin, recsOk, decide_eq_true h5]; rfl)
 clear hfin hok hr
 have hmm := @run_makeMap Tryz.prog
 have M0 := hU (MapAtR.made w)
 go_enter Tryz.func80, Tryz.ntmps80
 go_wp2_with fail
 obtain ⟨g, hg⟩ : ∃ g, g = w.heap.size := ⟨_, rfl⟩
 have M1 := M0.out
 rw [← hg] at M1
 have E1 := Ext.new (Below.refl w.heap.size w) (.map #[] 0)
 have hg1 : w.heap.size ≤ g := by omega
 rw [← hg]
 clear hg M0 hmm
 have M1 := hU M1; have E1 := hU E1
 go_loopw [12] (fun i wr => ∃ k : Nat, k ≤ l.length ∧ i = .int .i64 k ∧ allTo (recAt l) k = true ∧ MapAtR wr g k (seenF (l.take k)) ∧ Ext w wr) (fun i _ => l.length - (intOf i).toNat)
 case atStart => exact ⟨0, Nat.zero_le _, rfl, rfl, by rw [List.take_zero, seenF_nil]; exact M1.out, E1.out⟩
 case round =>
  clear M1 E1
  obtain ⟨k, hk, rfl, hi, hM, he⟩ := hrel
  have Hi := hU hi; have KM := hU hM
  clear hi hM
  by_cases hlt : k < l.length
  case neg =>
   have E := hU (show fin = true by rw [F.out, show l.length = k by omega]; exact Hi.out)
   go_wp2_with fail
   go_ret
   exact ⟨ret_bool E.out.symm, he⟩
  obtain ⟨b, off, rfl, hb, hc⟩ := Reads.at_ (HR.out.ext he).reads (k := k) hlt
  obtain ⟨d, hd⟩ : ∃ d, d = l[k] := ⟨_, rfl⟩
  have hdl : l[k]? = some d := by rw [hd]; exact List.getElem?_eq_getElem hlt
  have hdo := Hok.out d (List.mem_of_getElem? hdl)
  obtain ⟨c0, c1, c2⟩ := rec_at hc hdl
  have Hdl := hU hdl
  have RA := hU (recAt_eq hdl)
  have NX := hU (seenF_next hdl)
  have HDO := hU hdo
  clear hc hd hdl hdo
  go_upto_region 7 with fail
  have KE := Blk.new wr 77 #[.string d.reader, .string d.topic, .int .i64 d.index]
  have hgw := KM.out.lt
  have h2 := Ext.new (Below.refl wr.heap.size wr) (.cells #[.string d.reader, .string d.topic, .int .i64 d.index] 77)
  replace he := he.next h2; replace KM := hU (KM.out.ext h2)
  obtain ⟨q, hq⟩ : ∃ q, q = wr.heap.size := ⟨_, rfl⟩
  rw [← hq] at KE hgw
  rw [← hq]
  clear hq h2 c0 c1 c2
  generalize wr.alloc (.cells #[.string d.reader, .string d.topic, .int .i64 d.index] 77) = w1 at *
  obtain ⟨r0, f0⟩ := KE.rules
  cases p1 : receiptOk d
  · have E := hU (show fin = false by rw [F.out]; exact allTo_bad (k := k) (by rw [RA.out, p1]; rfl) _ hlt)
    go_wp2_with fail
    refine (ReceiptOk_any d _ HDO.out).mono ?_
    rintro e w2 ⟨rfl, h1⟩
    rw [p1]
    replace he := he.next h1
    go_wp2_with fail
    go_ret
    exact ⟨ret_bool E.out.symm, he⟩
  go_wp2_with fail
  refine (ReceiptOk_any d _ HDO.out).mono ?_
  rintro e w2 ⟨rfl, h1⟩
  rw [p1]
  clear r0 f0
  replace KE := KE.ext h1
  replace he := he.next h1; replace KM := hU (KM.out.ext h1)
  clear h1
  obtain ⟨r0, f0⟩ := KE.rules
  have LK := KM.out.look1 d HDO.out
  rw [seenF_get] at LK
  cases p2 : (l.take k).any fun x => x.eqb d
  · rw [p2] at LK
    simp only [Bool.false_eq_true, if_false] at LK
    have E := hU (show allTo (recAt l) (k + 1) = true from allTo_good Hi.out (by rw [RA.out, p1, p2]; rfl))
    obtain ⟨v0, st, w3, hme, w4, hes, hM4, hgr⟩ := KM.out.drew.entry (q := 1) d HDO.out (by unfold maxLen; omega) (by omega)
    have he4 := Ext.mapGrown (he.drew) hgr hg1
    have hes1 : (Instr.entryStore 192 (.map (some g)) (.int .i64 st) (.int .i64 1)).run Tryz.prog w3 = .ok () w4 := hes
    clear hes
    rw [NX.out] at hM4
    have KM4 := hU hM4
    have LK2 : (Instr.lookup 192 (.map (some g)) (.agg #[.string d.reader, .string d.topic, .int .i64 d.index]) false).run Tryz.prog w2.drew = .ok (.int .i64 0) w2.drew := by
     have := KM.out.drew.look1 d HDO.out
     rw [seenF_get, p2] at this
     simpa using this
    have KD : Hid (Blk w2.drew q 77 #[.string d.reader, .string d.topic, .int .i64 d.index]) := hU KE
    clear hM4 hgr
    go_upto_region 9 with fail
    refine wp_region_held_drew (S := fun _ => True) (by kernel_rfl) trivial (fun hH => ?_)
    refine takeQ 0 (.map (some g)) (some 25) rfl rfl (by kernel_rfl) (Or.inl ⟨by rfl, ?y1⟩) hH ?r1
    case y1 => intro w' hS'; go_simp; try with_reducible rfl
    try simp only [zA]
    refine oneH 1 (oi := _) (some 26) (by kernel_rfl) rfl rfl rfl (fun K' hK => ?_)
    refine ⟨?_⟩
    rw [if_pos (by rfl)]
    obtain ⟨r1, f1⟩ := KD.out.rules
    go_simp
    refine hK.out _ _ ⟨_, rfl⟩ trivial (fun _ => ?_)
    clear hK K'
    try simp only [zB]
    have LK3 := KM.out.drew.entry1 d HDO.out (by unfold maxLen; omega) (by rw [seenF_get, p2]; rfl) hme
    refine twoH 2 4 (oi := _) (oj := _) (some 27) (some 29) (by kernel_rfl) rfl rfl rfl rfl rfl rfl (fun K' hK => ?_) (fun K' hK => ?_)
    · refine ⟨?_⟩
      rw [if_pos (by rfl)]
      go_simp
      refine hK.out _ _ ⟨_, rfl⟩ trivial (fun _ => ?_)
      clear hK K' LK3
      try simp only [zB]
      refine takeQ 3 (.int .i64 1) (some 28) rfl rfl (by kernel_rfl) (Or.inl ⟨by rfl, ?y3a⟩) trivial ?r3a
      case y3a => intro w' hS'; go_simp; exact IntWalk.i64_in _ (by omega)
      try simp only [zA]
      refine oneH 4 (oi := _) (some 29) (by kernel_rfl) rfl rfl rfl (fun K' hK => ?_)
      refine ⟨?_⟩
      rw [if_pos (by rfl)]
      go_simp
      refine hK.out _ _ ⟨_, rfl⟩ trivial (fun _ => ?_)
      clear hK K'
      try simp only [zB]
      refine takeQ 5 (.int .i64 st) (some 30) rfl rfl (by kernel_rfl) (Or.inl ⟨by rfl, ?y5a⟩) trivial ?r5a
      case y5a => intro w' hS'; go_simp; try with_reducible rfl
      try simp only [zA]
      refine oneH 6 (oi := _) (none) (by kernel_rfl) rfl rfl rfl (fun K' hK => ?_)
      refine ⟨?_⟩
      rw [if_pos (by rfl)]
      go_simp
      refine hK.out _ _ ⟨undef, rfl⟩ trivial (fun _ => ?_)
      clear hK K'
      try simp only [zB]
      refine wpAnyH_done (by kernel_rfl) ?_ _
      clear LK hme hes1 KD KE r0 f0 KM he
      go_wp2_with fail
      go_roundw
      case rel => exact ⟨k + 1, by omega, by go_num, E.out, KM4.out, he4⟩
      case measure => simp [intOf]; omega
    · refine ⟨?_⟩
      rw [if_pos (by rfl)]
      go_simp
      refine hK.out _ _ ⟨_, rfl⟩ trivial (fun _ => ?_)
      clear hK K' LK2
      try simp only [zB]
      refine takeQ 5 (.int .i64 st) (some 30) rfl rfl (by kernel_rfl) (Or.inl ⟨by rfl, ?y5b⟩) trivial ?r5b
      case y5b => intro w' hS'; go_simp; try with_reducible rfl
      try simp only [zA]
      refine oneH 2 (oi := _) (some 27) (by kernel_rfl) rfl rfl rfl (fun K' hK => ?_)
      refine ⟨?_⟩
      rw [if_pos (by rfl)]
      go_simp
      refine hK.out _ _ ⟨_, rfl⟩ trivial (fun _ => ?_)
      clear hK K'
      try simp only [zB]
      refine takeQ 3 (.int .i64 1) (some 28) rfl rfl (by kernel_rfl) (Or.inl ⟨by rfl, ?y3b⟩) trivial ?r3b
      case y3b => intro w' hS'; go_simp; exact IntWalk.i64_in _ (by omega)
      try simp only [zA]
      refine oneH 6 (oi := _) (none) (by kernel_rfl) rfl rfl rfl (fun K' hK => ?_)
      refine ⟨?_⟩
      rw [if_pos (by rfl)]
      go_simp
      refine hK.out _ _ ⟨undef, rfl⟩ trivial (fun _ => ?_)
      clear hK K'
      try simp only [zB]
      refine wpAnyH_done (by kernel_rfl) ?_ _
      clear LK hme hes1 KD KE r0 f0 KM he
      go_wp2_with fail
      go_roundw
      case rel => exact ⟨k + 1, by omega, by go_num, E.out, KM4.out, he4⟩
      case measure => simp [intOf]; omega
  · rw [p2] at LK
    simp only [if_true] at LK
    have E := hU (show fin = false by rw [F.out]; exact allTo_bad (k := k) (by rw [RA.out, p1, p2]; rfl) _ hlt)
    go_wp2_with fail
    go_ret
    exact ⟨ret_bool E.out.symm, he⟩
end Go.Proofs.YtlgdghpnfclgpaaGreat
namespace Go.Proofs.YtlgdghpnfclgpaaGreat
set_option maxHeartbeats 2000000
set_option maxRecDepth 100000
set_option linter.unusedSimpArgs false
open Go.RowKit
set_option linter.unusedVariables false
theorem take_none {α : Type} {p : α → Bool} {l : List α} {k : Nat} {d : α} (h : ∀ x ∈ l.take k, p x = false) (hd : l[k]? = some d) (hp : p d = false) : ∀ x ∈ l.take (k + 1), p x = false := by
 obtain ⟨hk, rfl⟩ := List.getElem?_eq_some_iff.1 hd
 intro x hx
 rw [List.take_succ_eq_append_getElem hk, List.mem_append] at hx
 rcases hx with hx | hx
 · exact h x hx
 · obtain rfl := List.mem_singleton.1 hx
   exact hp
theorem l09Leaf_any {B : Nat} (A : Option Addr) (c : Nat) (l : List EntryD) (t : ByteArray) (ix : Int) (w : World) (hr : ReadsL w B EntryD.cells 5 A l) (hl : l.length ≤ 1048576) :
 Calls Tryz.prog 101 #[.slice A l.length c, .string t, .int .i64 ix] w fun e w' => e = .returned (.int .i64 (idxB (ofTI t ix) l)) ∧ w = w' := by
 have HR := hU hr
 obtain ⟨fin, hfin⟩ : ∃ fin, fin = idxB (ofTI t ix) l := ⟨_, rfl⟩
 rw [← hfin]
 have F := hU hfin
 clear hfin hr
 go_enter Tryz.func101, Tryz.ntmps101
 go_wp2_with fail
 go_loopw [7] (fun i wr => ∃ k : Nat, k ≤ l.length ∧ i = .int .i64 k ∧ (∀ x ∈ l.take k, ofTI t ix x = false) ∧ w = wr) (fun i _ => l.length - (intOf i).toNat)
 case atStart => exact ⟨0, Nat.zero_le _, rfl, by simp, rfl⟩
 case round =>
  obtain ⟨k, hk, rfl, hi, rfl⟩ := hrel
  have Hi := hU hi
  clear hi
  by_cases hlt : k < l.length
  case neg =>
   have E := hU (show fin = -1 by rw [F.out]; exact idxB_none (by have := Hi.out; rwa [show k = l.length by omega, List.take_length] at this))
   go_wp2_with fail
   go_ret
   exact ⟨ret_int E.out.symm, rfl⟩
  obtain ⟨b, off, rfl, hb, hc⟩ := Reads.at_ HR.out (k := k) hlt
  obtain ⟨d, hd⟩ : ∃ d, d = l[k] := ⟨_, rfl⟩
  have hdl : l[k]? = some d := by rw [hd]; exact List.getElem?_eq_getElem hlt
  obtain ⟨c0, c1, c2, c3, c4⟩ := entry_at hc hdl
  have Hdl := hU hdl
  have P := hU (show ofTI t ix d = ((d.topic.toList == t.toList) && (d.index == ix)) from rfl)
  clear hc hd hdl
  cases p1 : (d.topic.toList == t.toList)
  · have E := hU (take_none Hi.out Hdl.out (by rw [P.out, p1]; rfl))
    clear P
    go_wp2_with fail
    go_roundw
    case rel => exact ⟨k + 1, by omega, by go_num, E.out, trivial⟩
    case measure => simp [intOf]; omega
  by_cases p2 : d.index = ix
  · have E := hU (show fin = (k : Int) by rw [F.out]; exact idxB_at Hdl.out (by rw [P.out, p1, beq_iff_eq.2 p2]; rfl) Hi.out)
    clear P
    go_wp2_with fail
    go_ret
    exact ⟨ret_int E.out.symm, rfl⟩
  · have E := hU (take_none Hi.out Hdl.out (by rw [P.out, p1, beq_false_of_ne p2]; rfl))
    clear P
    go_wp2_with fail
    go_roundw
    case rel => exact ⟨k + 1, by omega, by go_num, E.out, trivial⟩
    case measure => simp [intOf]; omega
theorem l12At_any (A : Option Addr) (c : Nat) (l : List ReceiptD) (r : ReceiptD) (w : World) (hr : ReadsL w w.heap.size ReceiptD.cells 3 A l) (hl : l.length ≤ 1048576) :
 Calls Tryz.prog 128 #[.slice A l.length c, .agg #[.string r.reader, .string r.topic, .int .i64 r.index]] w fun e w' => e = .returned (.int .i64 (idxB (fun x => x.eqb r) l)) ∧ Ext w w' := by
 have HR := hU hr
 have K0 := hU (Blk.new w 77 #[.string r.reader, .string r.topic, .int .i64 r.index])
 have He := hU (Ext.new (Below.refl w.heap.size w) (.cells #[.string r.reader, .string r.topic, .int .i64 r.index] 77))
 obtain ⟨fin, hfin⟩ : ∃ fin, fin = idxB (fun x : ReceiptD => x.eqb r) l := ⟨_, rfl⟩
 rw [← hfin]
 have F := hU hfin
 clear hfin hr
 go_enter Tryz.func128, Tryz.ntmps128
 go_wp2_with fail
 obtain ⟨g, hg⟩ : ∃ g, g = w.heap.size := ⟨_, rfl⟩
 rw [← hg] at K0
 rw [← hg]
 clear hg
 go_loopw [5] (fun i wr => ∃ k : Nat, k ≤ l.length ∧ i = .int .i64 k ∧ (∀ x ∈ l.take k, x.eqb r = false) ∧ Blk wr g 77 #[.string r.reader, .string r.topic, .int .i64 r.index] ∧ Ext w wr) (fun i _ => l.length - (intOf i).toNat)
 case atStart => exact ⟨0, Nat.zero_le _, rfl, by simp, K0.out, He.out⟩
 case round =>
  clear K0 He
  obtain ⟨k, hk, rfl, hi, k0, he⟩ := hrel
  have Hi := hU hi
  obtain ⟨r0, m0⟩ := k0.rules
  have K0 := hU k0
  clear hi k0
  by_cases hlt : k < l.length
  case neg =>
   have E := hU (show fin = -1 by rw [F.out]; exact idxB_none (by have := Hi.out; rwa [show k = l.length by omega, List.take_length] at this))
   go_wp2_with fail
   go_ret
   exact ⟨ret_int E.out.symm, he⟩
  obtain ⟨b, off, rfl, hb, hc⟩ := Reads.at_ (HR.out.ext he) (k := k) hlt
  obtain ⟨d, hd⟩ : ∃ d, d = l[k] := ⟨_, rfl⟩
  have hdl : l[k]? = some d := by rw [hd]; exact List.getElem?_eq_getElem hlt
  obtain ⟨c0, c1, c2⟩ := rec_at hc hdl
  have Hdl := hU hdl
  have HQ := ReceiptD.run_eql d r
  clear hc hd hdl
  cases p1 : d.eqb r
  · have E := hU (take_none (p := fun x : ReceiptD => x.eqb r) Hi.out Hdl.out p1)
    go_wp2_with fail
    go_quiet (fail)
    go_wp2_with fail
    go_roundw
    case rel => exact ⟨k + 1, by omega, by go_num, E.out, K0.out.drewN _, he.drewN _⟩
    case measure => simp [intOf]; omega
  · have E := hU (show fin = (k : Int) by rw [F.out]; exact idxB_at Hdl.out p1 Hi.out)
    go_wp2_with fail
    go_quiet (fail)
    go_wp2_with fail
    go_ret
    exact ⟨ret_int E.out.symm, he.drewN _⟩
theorem recAt_one {l : List ReceiptD} {k : Nat} {d : ReceiptD} (hd : l[k]? = some d) : recAt l k = (receiptOk d && (idxB (fun x => x.eqb d) l == (k : Int))) := by rw [recAt, hd]
theorem l12ReceiptsOk_any (A : Option Addr) (c : Nat) (l : List ReceiptD) (w : World) (hr : SlF AnyB ReceiptD.cells 3 w A l c) (hok : ∀ d ∈ l, d.Ok) :
 Calls Tryz.prog 68 #[.slice A l.length c] w fun e w' => e = .returned (.bool (recsOk l)) ∧ Ext w w' := by
 have HR := hU hr
 have Hok := hU hok
 have hlm := hr.len
 unfold maxLen at hlm
 obtain ⟨fin, hfin⟩ : ∃ fin, fin = recsOk l := ⟨_, rfl⟩
 rw [← hfin]
 by_cases h5 : l.length ≤ 512
 case neg =>
  have E := hU (show fin = false by rw [hfin, recsOk, decide_eq_false h5]; rfl)
  have h6 : (512 : Int) < (l.length : Int) := by omega
  clear hfin
  go_enter Tryz.func68, Tryz.ntmps68
  go_wp2_with fail
  go_ret
  exact ⟨ret_bool E.out.symm, Below.refl w.heap.size w⟩
 have F := hU (show fin = allTo (recAt l) l.length by rw [hfin, recsOk, decide_eq_true h5]; rfl)
 clear hfin hok hr
 go_enter Tryz.func68, Tryz.ntmps68
 go_wp2_with fail
 go_loopw [3] (fun i wr => ∃ k : Nat, k ≤ l.length ∧ i = .int .i64 k ∧ allTo (recAt l) k = true ∧ Ext w wr) (fun i _ => l.length - (intOf i).toNat)
 case atStart => exact ⟨0, Nat.zero_le _, rfl, rfl, Below.refl w.heap.size w⟩
 case round =>
  obtain ⟨k, hk, rfl, hi, he⟩ := hrel
  have Hi := hU hi
  clear hi
  by_cases hlt : k < l.length
  case neg =>
   have E := hU (show fin = true by rw [F.out, show l.length = k by omega]; exact Hi.out)
   go_wp2_with fail
   go_ret
   exact ⟨ret_bool E.out.symm, he⟩
  obtain ⟨b, off, rfl, hb, hc⟩ := Reads.at_ (HR.out.ext he).reads (k := k) hlt
  obtain ⟨d, hd⟩ : ∃ d, d = l[k] := ⟨_, rfl⟩
  have hdl : l[k]? = some d := by rw [hd]; exact List.getElem?_eq_getElem hlt
  have hdo := Hok.out d (List.mem_of_getElem? hdl)
  obtain ⟨c0, c1, c2⟩ := rec_at hc hdl
  have RA := hU (recAt_one hdl)
  have HDO := hU hdo
  have AT := hU (fun (W : World) (hW : Ext w W) => l12At_any (some ⟨b, off, none⟩) c l d W (HR.out.ext hW).reads (by omega))
  clear hc hd hdl hdo
  cases p1 : receiptOk d
  · have E := hU (show fin = false by rw [F.out]; exact allTo_bad (k := k) (by rw [RA.out, p1]; rfl) _ hlt)
    go_wp2_with fail
    refine (specReceiptOk_any d _ HDO.out).mono ?_
    rintro e w2 ⟨rfl, h1⟩
    rw [p1]
    replace he := he.next h1
    go_wp2_with fail
    go_ret
    exact ⟨ret_bool E.out.symm, he⟩
  go_wp2_with fail
  refine (specReceiptOk_any d _ HDO.out).mono ?_
  rintro e w2 ⟨rfl, h1⟩
  rw [p1]
  have b0 := (h1.cell (p := ⟨b, off + k * 3, none⟩) hb).trans c0
  have b1 := (h1.cell (p := ⟨b, off + k * 3 + 1, none⟩) hb).trans c1
  have b2 := (h1.cell (p := ⟨b, off + k * 3 + 2, none⟩) hb).trans c2
  replace he := he.next h1
  clear h1 c0 c1 c2
  go_wp2_with fail
  refine (AT.out _ he).mono ?_
  rintro e w3 ⟨rfl, h1⟩
  replace he := he.next h1
  clear h1 b0 b1 b2
  obtain ⟨z, hz⟩ : ∃ z, z = idxB (fun x : ReceiptD => x.eqb d) l := ⟨_, rfl⟩
  rw [← hz] at RA
  rw [← hz]
  clear hz
  by_cases p2 : z = (k : Int)
  · have E := hU (show allTo (recAt l) (k + 1) = true from allTo_good Hi.out (by rw [RA.out, p1, beq_iff_eq.2 p2]; rfl))
    go_wp2_with fail
    go_roundw
    case rel => exact ⟨k + 1, by omega, by go_num, E.out, he⟩
    case measure => simp [intOf]; omega
  · have E := hU (show fin = false by rw [F.out]; exact allTo_bad (k := k) (by rw [RA.out, p1, beq_false_of_ne p2]; rfl) _ hlt)
    go_wp2_with fail
    go_ret
    exact ⟨ret_bool E.out.symm, he⟩
set_option maxHeartbeats 4000000
theorem headText_le (n : Int) (h : HeadD) : (headText n h).size ≤ 1000 := by
 cases k : headOk n h
 · rw [headText, k]; exact Nat.zero_le _
 · have := (headText_fits k).2; omega
theorem file_le (b : BrokerD) (f : Nat) : ∀ t ∈ fileT b f, t.size ≤ 1000 := by
 intro t ht
 unfold fileT at ht
 rw [List.mem_append, List.mem_append] at ht
 rcases ht with (ht | ht) | ht
 · split at ht
   · obtain ⟨e, he, rfl⟩ := List.mem_map.1 ht; exact leafText_size e
   · simp at ht
 · split at ht
   · obtain ⟨e, he, rfl⟩ := List.mem_map.1 ht; exact headText_le _ e
   · simp at ht
 · split at ht
   · obtain ⟨e, he, rfl⟩ := List.mem_map.1 ht; exact receiptText_size e
   · simp at ht
theorem file_many {b : BrokerD} (h : BSz b) (f : Nat) : (fileT b f).length ≤ 1048576 := by
 have h0 := h.e; have h1 := h.r; have h2 := h.h
 unfold fileT
 by_cases f0 : f = 0
 · subst f0; simp [textsE]; omega
 by_cases f1 : f = 1
 · subst f1; simp [textsH]; omega
 by_cases f2 : f = 2
 · subst f2; simp [textsR]; omega
 simp [f0, f1, f2]
theorem writeBehind_any (b : BrokerD) (f : Nat) (hf : f < 3) (t : ByteArray) (g : Nat) (A0 : Option Addr) (a0 : Nat) (A1 : Option Addr) (a1 : Nat) (A2 : Option Addr) (a2 : Nat) (A3 : Option Addr) (a3 : Nat) (A4 : Option Addr) (a4 : Nat) (w : World) (hb : Blk w g 59 #[.int .i64 b.width, .slice A0 b.log.entries.length a0, .slice A1 b.receipts.length a1, .slice A2 b.heads.length a2, .int .i64 b.sealed.leaves.size, .slice A3 b.sealed.leaves.peaks.length a3, .int .i64 b.sealed.taken.size, .slice A4 b.sealed.taken.peaks.length a4, .int .i64 b.sealed.head.number, .int .i64 b.sealed.head.size, .string b.sealed.head.root, .int .i64 b.sealed.head.taken, .string b.sealed.head.takenRoot]) (s : BArg AnyB w b A0 a0 A1 a1 A2 a2 A3 a3 A4 a4) (hk : TxOk b) (ht : t.size ≤ maxLen) :
 Calls Tryz.prog 158 #[.pointer (some ⟨g, 0, none⟩), .int .i64 (f : Int), .string t] w fun e w' => ∃ v, e = .returned v ∧ w'.ownsRow w.heap.size 112 3 v 1 (writeW b f t).cells ∧ Ext w w' := by
 have C0 := hU (texts_any b g A0 a0 A1 a1 A2 a2 A3 a3 A4 a4 w hb s hk)
 have HT := hU ht
 obtain ⟨T, hT⟩ : ∃ T, T = fileT b f := ⟨_, rfl⟩
 have HTs := hU (show ∀ x ∈ T, x.size ≤ 1000 from by rw [hT]; exact file_le b f)
 have hTl : T.length ≤ 1048576 := by rw [hT]; exact file_many hk.n f
 have FX := hU hT
 clear hb s hk ht hT
 go_enter Tryz.func158, Tryz.ntmps158
 go_wp2_with fail
 refine C0.out.mono ?_
 rintro e w1 ⟨V0, c0, V1, c1, V2, c2, rfl, r0, r1, r2, he⟩
 clear C0
 obtain ⟨V, cv, hix, hr⟩ : ∃ V cv, (∀ W : World, (Instr.index 127 (.agg #[.slice V0 (textsE b).length c0, .slice V1 (textsH b).length c1, .slice V2 (textsR b).length c2]) (.int .i64 (f : Int))).run Tryz.prog W = .ok (.slice V T.length cv) W) ∧ RowT w.heap.size w1 (.slice V T.length cv) T := by
  rw [FX.out]
  obtain rfl | rfl | rfl : f = 0 ∨ f = 1 ∨ f = 2 := by omega
  · rw [fileT_0]; exact ⟨V0, c0, fun _ => by kernel_rfl, r0⟩
  · rw [fileT_1]; exact ⟨V1, c1, fun _ => by kernel_rfl, r1⟩
  · rw [fileT_2]; exact ⟨V2, c2, fun _ => by kernel_rfl, r2⟩
 have HR := hU (slf_at hr).reads
 have HE := hU he
 clear r0 r1 r2 hr he
 go_wp2_with fail
 go_loopw [7, 17] (fun v i wr => ∃ k : Nat, k ≤ T.length ∧ i = .int .i64 k ∧ v = .int .i64 ((offT (T.take k) : Nat) : Int) ∧ Ext w1 wr) (fun _ i _ => T.length - (intOf i).toNat)
 case atStart => exact ⟨0, Nat.zero_le _, rfl, rfl, Below.refl _ _⟩
 case round =>
  clear hix
  obtain ⟨k, hk, rfl, rfl, he⟩ := hrel
  by_cases hlt : k < T.length
  case neg =>
   obtain rfl : k = T.length := by omega
   rw [List.take_length]
   obtain ⟨q, hq⟩ : ∃ q, q = offT T := ⟨_, rfl⟩
   rw [← hq]
   have HQ := hU hq
   clear hq hlt hk
   replace he := HE.out.next he
   clear HE
   go_wp2_with fail
   refine (implFrame_any t _ HT.out).mono ?_
   rintro e w2 ⟨rfl, h2⟩
   replace he := he.next h2
   clear h2
   have hws := he.size
   obtain ⟨F, hF⟩ : ∃ F, F = frameOut t := ⟨_, rfl⟩
   rw [← hF]
   have HF := hU hF
   clear hF
   have Z := hU ((Blk.new w2 112 #[.int .i64 (f : Int), .int .i64 (q : Int), .string F]).ownsRow (xs := [.int .i64 (f : Int), .int .i64 (q : Int), .string F]) 1 3 w.heap.size hws rfl (by unfold maxLen; omega))
   have X := hU (he.new (.cells #[.int .i64 (f : Int), .int .i64 (q : Int), .string F] 112))
   clear he hws
   go_wp2_with fail
   go_ret
   refine ⟨_, rfl, ?_, X.out⟩
   have E : (writeW b f t).cells = [.int .i64 (f : Int), .int .i64 (q : Int), .string F] := by rw [HQ.out, HF.out, FX.out]; rfl
   rw [E]
   exact Z.out
  obtain ⟨x, hx⟩ : ∃ x, T[k]? = some x := ⟨T[k], List.getElem?_eq_getElem hlt⟩
  obtain ⟨b_, off, rfl, hb_, c0⟩ := texts_cell (HR.out.ext he) hx
  have hxs := HTs.out x (List.mem_of_getElem? hx)
  have hq2 := offT_take hx
  have hq1 := offT_le (l := T.take k) (m := 1000) (fun y hy => HTs.out y (List.mem_of_mem_take hy))
  rw [List.length_take, Nat.min_eq_left hk] at hq1
  obtain ⟨q, hq⟩ : ∃ q, q = offT (T.take k) := ⟨_, rfl⟩
  rw [← hq] at hq1 hq2
  rw [← hq]
  have hq3 : q ≤ 1100000000 := by omega
  have a1 : IntKind.i64.wrap (6 + (x.size : Int)) = 6 + (x.size : Int) := IntWalk.i64_in _ (by omega)
  have a2 : IntKind.i64.wrap ((q : Int) + (6 + (x.size : Int))) = ((offT (T.take (k + 1)) : Nat) : Int) := by rw [IntWalk.i64_in _ (by omega), hq2]; omega
  clear hx hq2 hq1 hq
  go_wp2_with fail
  go_roundw
  case rel => exact ⟨k + 1, by omega, by go_num, rfl, he⟩
  case measure => simp [intOf]; omega
end Go.Proofs.YtlgdghpnfclgpaaGreat

/-
  Recs: No condition.
-/
import Derived.Test.YtlgdghpnfclgpaaGreatLogOks
import Derived.Test.YtlgdghpnfclgpaaGreatNodeW
import Derived.WideKeyEntry
namespace Go.Proofs.YtlgdghpnfclgpaaGreat
set_option maxHeartbeats 2000000
set_option maxRecDepth 100000
set_option linter.unusedSimpArgs false
open Go.RowKit Go.WideMaps Go.Maps
set_option linter.unusedVariables false
theorem recAt_eq {l : List ReceiptD} {k : Nat} {d : ReceiptD} (hd : l[k]? = some d) : recAt l k = (receiptOk d && !((l.take k).any fun x => x.eqb d)) := by
 rw [recAt, hd]
 simp only
 congr 1
 cases h : (l.take k).any fun x => x.eqb d
 · have hn : ∀ y ∈ l.take k, (fun x : ReceiptD => x.eqb d) y = false := by
    intro y hy
    have := List.any_eq_false.1 h y hy
    simpa using this
   rw [idxB_at (p := fun x : ReceiptD => x.eqb d) hd (ReceiptD.eqb_self d) hn]; simp
 · obtain ⟨x, hx, hp⟩ := List.any_eq_true.1 h
   simp only [Bool.not_true, beq_eq_false_iff_ne, ne_eq]
   intro e
   obtain ⟨_, _, _, h3⟩ := idxB_spec e
   have := h3 x hx
   rw [hp] at this; cases this
def seenF (l : List ReceiptD) (t : ReceiptD) : Option Nat := if l.any (fun x => x.eqb t) then some 1 else none
theorem seenF_nil : seenF [] = fun _ => none := rfl
theorem seenF_get (l : List ReceiptD) (t : ReceiptD) : (seenF l t).getD 0 = if l.any (fun x => x.eqb t) then 1 else 0 := by
 unfold seenF; split <;> rfl
theorem seenF_next {l : List ReceiptD} {k : Nat} {d : ReceiptD} (hd : l[k]? = some d) : rput (seenF (l.take k)) d 1 = seenF (l.take (k + 1)) := by
 obtain ⟨hk, rfl⟩ := List.getElem?_eq_some_iff.1 hd
 funext t
 unfold rput seenF
 rw [List.take_succ_eq_append_getElem hk, List.any_append]
 simp only [List.any_cons, List.any_nil, Bool.or_false]
 cases e : t.eqb l[k]
 · have : l[k].eqb t = false := by
    cases e2 : l[k].eqb t
    · rfl
    · rw [(ReceiptD.eqb_iff _ _).1 e2, ReceiptD.eqb_self] at e; cases e
   rw [this]; simp
 · have : l[k].eqb t = true := by rw [(ReceiptD.eqb_iff _ _).1 e, ReceiptD.eqb_self]
   rw [this]; simp
theorem recLaw : KeyLaw Tryz.prog 77 := deep_law_laid (by kernel_rfl) (m := 2) (by omega) (of_decide_eq_true (by kernel_rfl)) (by kernel_rfl) (by rw [Tryz.underlying77])
theorem intZero (w : World) : (zeroValue 3).run Tryz.prog w = .ok (.int .i64 0) w := by kernel_rfl
theorem MapAtR.entry {w : World} {B n q : Nat} {f : ReceiptD → Option Nat} (h : MapAtR w B n f) (s : ReceiptD) (hs : s.Ok) (hn : n < maxLen) (hq : q ≤ 1099511627776) :
 ∃ v0 st w1, (Instr.mapEntry 192 (.map (some B)) (.agg #[.string s.reader, .string s.topic, .int .i64 s.index])).run Tryz.prog w = .ok (.tuple #[v0, .int .i64 st]) w1 ∧
  ∃ w2, (Instr.entryStore 192 (.map (some B)) (.int .i64 st) (.int .i64 (q : Int))).run Tryz.prog w1 = .ok () w2 ∧ MapAtR w2 B (n + 1) (rput f s q) ∧ w.grownBy w2 (some B) := by
 obtain ⟨D, h, k⟩ := h
 have wf : (Lit.int .i64 (q : Int)).wf = true := WalkArith.wf_i64 (by omega)
 obtain ⟨w', hrun, r1, r2⟩ := h.update recKeyed Tryz.underlying192 hn (rkey_of s hs) (plainElem_int Tryz.underlying3 wf)
 have h0 := h
 obtain ⟨es, clock, hb, F, _, _⟩ := h0
 obtain ⟨v0, st, es1, clock1, e1, _, e2⟩ := WideElems.entry_then_store recLaw Tryz.underlying192 (z := .int .i64 0) intZero hb F (rkey_of s hs)
 obtain ⟨es', clock', e3, e4⟩ := e2 (ChangeMaps.setBlock w B (.map es1 clock1)) (.int .i64 (q : Int)) (ChangeMaps.heap_setBlock_same hb _)
 rw [hrun] at e4
 have e5 : w' = ChangeMaps.setBlock w B (.map es' clock') := by cases e4; rfl
 refine ⟨v0, (st : Int), _, e1, w', ?_, MapAtR.put hs k h.isMap r1, r2⟩
 have e6 : ChangeMaps.setBlock (ChangeMaps.setBlock w B (.map es1 clock1)) B (.map es' clock') = ChangeMaps.setBlock w B (.map es' clock') := by
  simp [ChangeMaps.setBlock]
 rw [e6, ← e5] at e3
 exact e3
theorem MapAtR.entry1 {w w1 : World} {B n : Nat} {f : ReceiptD → Option Nat} {v : Value} (h : MapAtR w B n f) (s : ReceiptD) (hs : s.Ok) (hn : n < maxLen) (hf : (f s).getD 0 = 0)
 (hrun : (Instr.mapEntry 192 (.map (some B)) (.agg #[.string s.reader, .string s.topic, .int .i64 s.index])).run Tryz.prog w = .ok v w1) :
 (Instr.lookup 192 (.map (some B)) (.agg #[.string s.reader, .string s.topic, .int .i64 s.index]) false).run Tryz.prog w1 = .ok (.int .i64 0) w1 := by
 have hh := h
 obtain ⟨D, h, k⟩ := h
 obtain ⟨w', hup, r1, r2⟩ := h.update recKeyed Tryz.underlying192 hn (rkey_of s hs) (plainElem_int Tryz.underlying3 (a := 0) (by decide))
 have hM := h.isMap
 have h0 := h
 obtain ⟨es, clock, hb, F, _, _⟩ := h0
 have hkey := rkey_of s hs
 rcases recLaw.find w hkey es.toList F.keys with ⟨h1, h2⟩ | ⟨j, e0, h1, h2, h3⟩
 · have e1 : (Instr.mapEntry 192 (.map (some B)) (rval s)).run Tryz.prog w = .ok (.tuple #[.int .i64 0, goInt clock]) (ChangeMaps.setBlock w B (.map (es.push ⟨rval s, .int .i64 0, clock⟩) (clock + 1))) := by
    simp [Instr.mapEntry, run_underlying Tryz.underlying192, MapKept.run_getObj_map hb, recLaw.check w false hkey, h1, intZero, MapKept.run_setObj_map _ hb, Result.andThen, ChangeMaps.setBlock]
   have e2 : (Instr.mapUpdate 192 (.map (some B)) (rval s) (.int .i64 0)).run Tryz.prog w = .ok () (ChangeMaps.setBlock w B (.map (es.push ⟨rval s, .int .i64 0, clock⟩) (clock + 1))) := by
    simp [Instr.mapUpdate, run_underlying Tryz.underlying192, MapKept.run_getObj_map hb, recLaw.check w false hkey, h1, MapKept.run_setObj_map _ hb, Result.andThen, ChangeMaps.setBlock]
   have a1 : w1 = ChangeMaps.setBlock w B (.map (es.push ⟨rval s, .int .i64 0, clock⟩) (clock + 1)) := by
    rw [show (.agg #[.string s.reader, .string s.topic, .int .i64 s.index] : Value) = rval s from rfl, e1] at hrun
    cases hrun; rfl
   have a2 : w' = w1 := by rw [e2] at hup; rw [a1]; cases hup; rfl
   subst a2
   have M := MapAtR.put (m := 0) hs k hM r1
   have := M.look1 s hs
   simpa [rput, ReceiptD.eqb_self] using this
 · have hj : es[j]? = some e0 := by simpa using h2
   have e1 : (Instr.mapEntry 192 (.map (some B)) (rval s)).run Tryz.prog w = .ok (.tuple #[e0.val, goInt e0.born]) w := by
    have hsame : es.modify j (fun e => { e with key := rval s }) = es := by
     apply Array.ext'
     rw [Array.toList_modify, ChangeMaps.modify_eq_set _ _ _ _ h2]
     have : ({ e0 with key := rval s } : MapEntry) = e0 := by rw [← h3]
     rw [this]
     exact WideElems.set_self _ _ _ h2
    have hself : ({ w with heap := w.heap.setIfInBounds B (.map es clock) } : World) = w := by
     have : w.heap.setIfInBounds B (.map es clock) = w.heap := by
      apply Array.ext_getElem?
      intro i
      rw [Array.getElem?_setIfInBounds]
      split
      · rename_i e; subst e; split
        · exact hb.symm
        · rename_i hlt; rw [Array.getElem?_eq_none (by omega)]
      · rfl
     rw [this]
    simp [Instr.mapEntry, run_underlying Tryz.underlying192, MapKept.run_getObj_map hb, recLaw.check w false hkey, h1, hj, h3, recLaw.stays w hkey, hsame, MapKept.run_setObj_map _ hb, Result.andThen, hself]
   have a1 : w1 = w := by
    rw [show (.agg #[.string s.reader, .string s.topic, .int .i64 s.index] : Value) = rval s from rfl, e1] at hrun
    cases hrun; rfl
   subst a1
   have := hh.look1 s hs
   rw [hf] at this
   exact this
theorem twoH {P : Program} {md : Region.Mode} {ops : Array Oper} {Q : Exit → Act → World → Prop} {S : World → Prop} (i j : Nat) {oi oj : Oper} {fuel : Nat} {listed : Array Bool} {a : Act} {w : World} (d e : Option Tmp) (hr : Region.ready md ops listed = [i, j])
 (hi : ops[i]? = some oi) (hg : oi.guard = none) (hd : oi.dst = d) (hj : ops[j]? = some oj) (hgj : oj.guard = none) (hdj : oj.dst = e)
 (h : ∀ K' : Act → World → Prop, Shut (∀ a' w', (∃ v, a' = a.put d v) → S w' → (S w' → wpAnyH P md ops Q S fuel (listed.setIfInBounds i true) a' w') → K' a' w') → StepG (if Region.wanted oi (yielded ops a.tmps) = true then Oper.wp P oi a w K' Q else K' (a.put oi.dst undef) w))
 (h' : ∀ K' : Act → World → Prop, Shut (∀ a' w', (∃ v, a' = a.put e v) → S w' → (S w' → wpAnyH P md ops Q S fuel (listed.setIfInBounds j true) a' w') → K' a' w') → StepG (if Region.wanted oj (yielded ops a.tmps) = true then Oper.wp P oj a w K' Q else K' (a.put oj.dst undef) w)) : wpAnyH P md ops Q S (fuel + 1) listed a w := by
 refine wpAnyH_all hr (by simp) fun x hx => ?_
 rcases List.mem_cons.1 hx with rfl | hx
 · unfold wpOp
   simp only [hi]
   have hw : Region.wanted oi (yielded ops a.tmps) = true := by simp [Region.wanted, hg]
   rw [if_pos hw]
   have h2 := h (fun a' w' => S w' ∧ wpAnyH P md ops Q S fuel (listed.setIfInBounds x true) a' w') fun a' w' _ hS hW => ⟨hS, hW hS⟩
   replace h2 := h2.out
   rw [if_pos hw] at h2
   exact .inl h2
 · obtain rfl : x = j := by simpa using hx
   unfold wpOp
   simp only [hj]
   have hw : Region.wanted oj (yielded ops a.tmps) = true := by simp [Region.wanted, hgj]
   rw [if_pos hw]
   have h2 := h' (fun a' w' => S w' ∧ wpAnyH P md ops Q S fuel (listed.setIfInBounds x true) a' w') fun a' w' _ hS hW => ⟨hS, hW hS⟩
   replace h2 := h2.out
   rw [if_pos hw] at h2
   exact .inl h2
theorem MapAtR.drew {w : World} {B n : Nat} {f : ReceiptD → Option Nat} (h : MapAtR w B n f) : MapAtR w.drew B n f := h
theorem implReceiptsOk_any (A : Option Addr) (c : Nat) (l : List ReceiptD) (w : World) (hr : SlF AnyB ReceiptD.cells 3 w A l c) (hok : ∀ d ∈ l, d.Ok) :
 Calls Tryz.prog 80 #[.slice A l.length c] w fun e w' => e = .returned (.bool (recsOk l)) ∧ Ext w w' := by
 have HR := hU hr
 have Hok := hU hok
 have hlm := hr.len
 unfold maxLen at hlm
 obtain ⟨fin, hfin⟩ : ∃ fin, fin = recsOk l := ⟨_, rfl⟩
 rw [← hfin]
 by_cases h5 : l.length ≤ 512
 case neg =>
  have E := hU (show fin = false by rw [hfin, recsOk, decide_eq_false h5]; rfl)
  have h6 : (512 : Int) < (l.length : Int) := by omega
  clear hfin
  go_enter Tryz.func80, Tryz.ntmps80
  go_wp2_with fail
  go_ret
  exact ⟨ret_bool E.out.symm, Below.refl w.heap.size w⟩
 have F := hU (show fin = allTo (recAt l) l.length by rw [hfin, recsOk, decide_eq_true h5]; rfl)
 clear hfin hok hr
 have hmm := @run_makeMap Tryz.prog
 have M0 := hU (MapAtR.made w)
 go_enter Tryz.func80, Tryz.ntmps80
 go_wp2_with fail
 obtain ⟨g, hg⟩ : ∃ g, g = w.heap.size := ⟨_, rfl⟩
 have M1 := M0.out
 rw [← hg] at M1
 have E1 := Ext.new (Below.refl w.heap.size w) (.map #[] 0)
 have hg1 : w.heap.size ≤ g := by omega
 rw [← hg]
 clear hg M0 hmm
 have M1 := hU M1; have E1 := hU E1
 go_loopw [12] (fun i wr => ∃ k : Nat, k ≤ l.length ∧ i = .int .i64 k ∧ allTo (recAt l) k = true ∧ MapAtR wr g k (seenF (l.take k)) ∧ Ext w wr) (fun i _ => l.length - (intOf i).toNat)
 case atStart => exact ⟨0, Nat.zero_le _, rfl, rfl, by rw [List.take_zero, seenF_nil]; exact M1.out, E1.out⟩
 case round =>
  clear M1 E1
  obtain ⟨k, hk, rfl, hi, hM, he⟩ := hrel
  have Hi := hU hi; have KM := hU hM
  clear hi hM
  by_cases hlt : k < l.length
  case neg =>
   have E := hU (show fin = true by rw [F.out, show l.length = k by omega]; exact Hi.out)
   go_wp2_with fail
   go_ret
   exact ⟨ret_bool E.out.symm, he⟩
  obtain ⟨b, off, rfl, hb, hc⟩ := Reads.at_ (HR.out.ext he).reads (k := k) hlt
  obtain ⟨d, hd⟩ : ∃ d, d = l[k] := ⟨_, rfl⟩
  have hdl : l[k]? = some d := by rw [hd]; exact List.getElem?_eq_getElem hlt
  have hdo := Hok.out d (List.mem_of_getElem? hdl)
  obtain ⟨c0, c1, c2⟩ := rec_at hc hdl
  have Hdl := hU hdl
  have RA := hU (recAt_eq hdl)
  have NX := hU (seenF_next hdl)
  have HDO := hU hdo
  clear hc hd hdl hdo
  go_upto_region 7 with fail
  have KE := Blk.new wr 77 #[.string d.reader, .string d.topic, .int .i64 d.index]
  have hgw := KM.out.lt
  have h2 := Ext.new (Below.refl wr.heap.size wr) (.cells #[.string d.reader, .string d.topic, .int .i64 d.index] 77)
  replace he := he.next h2; replace KM := hU (KM.out.ext h2)
  obtain ⟨q, hq⟩ : ∃ q, q = wr.heap.size := ⟨_, rfl⟩
  rw [← hq] at KE hgw
  rw [← hq]
  clear hq h2 c0 c1 c2
  generalize wr.alloc (.cells #[.string d.reader, .string d.topic, .int .i64 d.index] 77) = w1 at *
  obtain ⟨r0, f0⟩ := KE.rules
  cases p1 : receiptOk d
  · have E := hU (show fin = false by rw [F.out]; exact allTo_bad (k := k) (by rw [RA.out, p1]; rfl) _ hlt)
    go_wp2_with fail
    refine (ReceiptOk_any d _ HDO.out).mono ?_
    rintro e w2 ⟨rfl, h1⟩
    rw [p1]
    replace he := he.next h1
    go_wp2_with fail
    go_ret
    exact ⟨ret_bool E.out.symm, he⟩
  go_wp2_with fail
  refine (ReceiptOk_any d _ HDO.out).mono ?_
  rintro e w2 ⟨rfl, h1⟩
  rw [p1]
  clear r0 f0
  replace KE := KE.ext h1
  replace he := he.next h1; replace KM := hU (KM.out.ext h1)
  clear h1
  obtain ⟨r0, f0⟩ := KE.rules
  have LK := KM.out.look1 d HDO.out
  rw [seenF_get] at LK
  cases p2 : (l.take k).any fun x => x.eqb d
  · rw [p2] at LK
    simp only [Bool.false_eq_true, if_false] at LK
    have E := hU (show allTo (recAt l) (k + 1) = true from allTo_good Hi.out (by rw [RA.out, p1, p2]; rfl))
    obtain ⟨v0, st, w3, hme, w4, hes, hM4, hgr⟩ := KM.out.drew.entry (q := 1) d HDO.out (by unfold maxLen; omega) (by omega)
    have he4 := Ext.mapGrown (he.drew) hgr hg1
    have hes1 : (Instr.entryStore 192 (.map (some g)) (.int .i64 st) (.int .i64 1)).run Tryz.prog w3 = .ok () w4 := hes
    clear hes
    rw [NX.out] at hM4
    have KM4 := hU hM4
    have LK2 : (Instr.lookup 192 (.map (some g)) (.agg #[.string d.reader, .string d.topic, .int .i64 d.index]) false).run Tryz.prog w2.drew = .ok (.int .i64 0) w2.drew := by
     have := KM.out.drew.look1 d HDO.out
     rw [seenF_get, p2] at this
     simpa using this
    have KD : Hid (Blk w2.drew q 77 #[.string d.reader, .string d.topic, .int .i64 d.index]) := hU KE
    clear hM4 hgr
    go_upto_region 9 with fail
    refine wp_region_held_drew (S := fun _ => True) (by kernel_rfl) trivial (fun hH => ?_)
    refine takeQ 0 (.map (some g)) (some 25) rfl rfl (by kernel_rfl) (Or.inl ⟨by rfl, ?y1⟩) hH ?r1
    case y1 => intro w' hS'; go_simp; try with_reducible rfl
    try simp only [zA]
    refine oneH 1 (oi := _) (some 26) (by kernel_rfl) rfl rfl rfl (fun K' hK => ?_)
    refine ⟨?_⟩
    rw [if_pos (by rfl)]
    obtain ⟨r1, f1⟩ := KD.out.rules
    go_simp
    refine hK.out _ _ ⟨_, rfl⟩ trivial (fun _ => ?_)
    clear hK K'
    try simp only [zB]
    have LK3 := KM.out.drew.entry1 d HDO.out (by unfold maxLen; omega) (by rw [seenF_get, p2]; rfl) hme
    refine twoH 2 4 (oi := _) (oj := _) (some 27) (some 29) (by kernel_rfl) rfl rfl rfl rfl rfl rfl (fun K' hK => ?_) (fun K' hK => ?_)
    · refine ⟨?_⟩
      rw [if_pos (by rfl)]
      go_simp
      refine hK.out _ _ ⟨_, rfl⟩ trivial (fun _ => ?_)
      clear hK K' LK3
      try simp only [zB]
      refine takeQ 3 (.int .i64 1) (some 28) rfl rfl (by kernel_rfl) (Or.inl ⟨by rfl, ?y3a⟩) trivial ?r3a
      case y3a => intro w' hS'; go_simp; exact IntWalk.i64_in _ (by omega)
      try simp only [zA]
      refine oneH 4 (oi := _) (some 29) (by kernel_rfl) rfl rfl rfl (fun K' hK => ?_)
      refine ⟨?_⟩
      rw [if_pos (by rfl)]
      go_simp
      refine hK.out _ _ ⟨_, rfl⟩ trivial (fun _ => ?_)
      clear hK K'
      try simp only [zB]
      refine takeQ 5 (.int .i64 st) (some 30) rfl rfl (by kernel_rfl) (Or.inl ⟨by rfl, ?y5a⟩) trivial ?r5a
      case y5a => intro w' hS'; go_simp; try with_reducible rfl
      try simp only [zA]
      refine oneH 6 (oi := _) (none) (by kernel_rfl) rfl rfl rfl (fun K' hK => ?_)
      refine ⟨?_⟩
      rw [if_pos (by rfl)]
      go_simp
      refine hK.out _ _ ⟨undef, rfl⟩ trivial (fun _ => ?_)
      clear hK K'
      try simp only [zB]
      refine wpAnyH_done (by kernel_rfl) ?_ _
      clear LK hme hes1 KD KE r0 f0 KM he
      go_wp2_with fail
      go_roundw
      case rel => exact ⟨k + 1, by omega, by go_num, E.out, KM4.out, he4⟩
      case measure => simp [intOf]; omega
    · refine ⟨?_⟩
      rw [if_pos (by rfl)]
      go_simp
      refine hK.out _ _ ⟨_, rfl⟩ trivial (fun _ => ?_)
      clear hK K' LK2
      try simp only [zB]
      refine takeQ 5 (.int .i64 st) (some 30) rfl rfl (by kernel_rfl) (Or.inl ⟨by rfl, ?y5b⟩) trivial ?r5b
      case y5b => intro w' hS'; go_simp; try with_reducible rfl
      try simp only [zA]
      refine oneH 2 (oi := _) (some 27) (by kernel_rfl) rfl rfl rfl (fun K' hK => ?_)
      refine ⟨?_⟩
      rw [if_pos (by rfl)]
      go_simp
      refine hK.out _ _ ⟨_, rfl⟩ trivial (fun _ => ?_)
      clear hK K'
      try simp only [zB]
      refine takeQ 3 (.int .i64 1) (some 28) rfl rfl (by kernel_rfl) (Or.inl ⟨by rfl, ?y3b⟩) trivial ?r3b
      case y3b => intro w' hS'; go_simp; exact IntWalk.i64_in _ (by omega)
      try simp only [zA]
      refine oneH 6 (oi := _) (none) (by kernel_rfl) rfl rfl rfl (fun K' hK => ?_)
      refine ⟨?_⟩
      rw [if_pos (by rfl)]
      go_simp
      refine hK.out _ _ ⟨undef, rfl⟩ trivial (fun _ => ?_)
      clear hK K'
      try simp only [zB]
      refine wpAnyH_done (by kernel_rfl) ?_ _
      clear LK hme hes1 KD KE r0 f0 KM he
      go_wp2_with fail
      go_roundw
      case rel => exact ⟨k + 1, by omega, by go_num, E.out, KM4.out, he4⟩
      case measure => simp [intOf]; omega
  · rw [p2] at LK
    simp only [if_true] at LK
    have E := hU (show fin = false by rw [F.out]; exact allTo_bad (k := k) (by rw [RA.out, p1, p2]; rfl) _ hlt)
    go_wp2_with fail
    go_ret
    exact ⟨ret_bool E.out.symm, he⟩
end Go.Proofs.YtlgdghpnfclgpaaGreat

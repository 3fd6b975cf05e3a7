/-
  LogOks: No condition.
-/
import Derived.Test.YtlgdghpnfclgpaaGreatBroker1
import Derived.Test.YtlgdghpnfclgpaaGreatMapRec
import Derived.Test.YtlgdghpnfclgpaaGreatBunch
namespace Go.Proofs.YtlgdghpnfclgpaaGreat
set_option maxHeartbeats 2000000
set_option maxRecDepth 100000
set_option linter.unusedSimpArgs false
open Go.RowKit
set_option linter.unusedVariables false
def cntF (l : List EntryD) (t : ByteArray) : Option Nat := if cntT l t = 0 then none else some (cntT l t)
theorem cntF_nil : cntF [] = fun _ => none := rfl
theorem cntF_get (l : List EntryD) (t : ByteArray) : (cntF l t).getD 0 = cntT l t := by
 unfold cntF
 split
 · simp; omega
 · rfl
theorem cntF_next {l : List EntryD} {k : Nat} {d : EntryD} (hd : l[k]? = some d) : fput (cntF (l.take k)) d.topic (cntT (l.take k) d.topic + 1) = cntF (l.take (k + 1)) := by
 funext t
 unfold fput cntF
 rw [cntT_next hd]
 by_cases e : t = d.topic
 · subst e
   rw [if_pos rfl, if_pos (show ofTopic d.topic d = true by simp [ofTopic]), if_neg (by omega)]
 · have : ofTopic t d = false := by
    simp only [ofTopic, beq_eq_false_iff_ne, ne_eq]
    intro h
    exact e (bytes_toList.1 h).symm
   simp [e, this]
theorem logAt_eq {l : List EntryD} {k : Nat} {d : EntryD} (hd : l[k]? = some d) : logAt l k = (entryOk d && ((cntT (l.take k) d.topic : Int) == d.index)) := by rw [logAt, hd]
theorem reads_take {α : Type} {f : α → List Value} {size : Nat} {w : World} {B : Nat} {A : Option Addr} {l : List α} (hf : ∀ a, (f a).length = size) (h : ReadsL w B f size A l) (k : Nat) (hk : k ≤ l.length) : ReadsL w B f size A (l.take k) := by
 refine ⟨flat_len f size hf _, fun hn => ?_⟩
 obtain ⟨b, off, e, hb, hc⟩ := h.2 (by rw [List.length_take] at hn; omega)
 refine ⟨b, off, e, hb, fun j u hu => hc j u ?_⟩
 conv => lhs; rw [← List.take_append_drop k l, List.flatMap_append]
 rw [List.getElem?_append_left (List.getElem?_eq_some_iff.1 hu).1]
 exact hu
theorem implLogOk_any (A : Option Addr) (c : Nat) (l : List EntryD) (w : World) (hr : SlF AnyB EntryD.cells 5 w A l c) (hok : ∀ d ∈ l, d.Ok) :
 Calls Tryz.prog 78 #[.agg #[.slice A l.length c]] w fun e w' => e = .returned (.bool (logOk l)) ∧ Ext w w' := by
 have K0 := hU ((Blk.new w 51 #[.slice A l.length c]))
 have He := hU (Ext.new (Below.refl w.heap.size w) (.cells #[.slice A l.length c] 51))
 have HR := hU hr
 have Hok := hU hok
 have hlm := hr.len
 unfold maxLen at hlm
 obtain ⟨fin, hfin⟩ : ∃ fin, fin = logOk l := ⟨_, rfl⟩
 rw [← hfin]
 by_cases h5 : l.length ≤ 512
 case neg =>
  have E := hU (show fin = false by rw [hfin, logOk, decide_eq_false h5]; rfl)
  have h6 : (512 : Int) < (l.length : Int) := by omega
  clear hfin
  go_enter Tryz.func78, Tryz.ntmps78
  go_wp2_with fail
  go_ret
  exact ⟨ret_bool E.out.symm, He.out⟩
 have F := hU (show fin = allTo (logAt l) l.length by rw [hfin, logOk, decide_eq_true h5]; rfl)
 clear hfin hok hr
 have hmm := @run_makeMap Tryz.prog
 have M0 := hU (MapAt.made (w.alloc (.cells #[.slice A l.length c] 51)))
 go_enter Tryz.func78, Tryz.ntmps78
 go_wp2_with fail
 obtain ⟨g, hg⟩ : ∃ g, g = w.heap.size := ⟨_, rfl⟩
 have M1 := M0.out
 rw [World.size_alloc, ← hg] at M1
 have E1 := Ext.new He.out (.map #[] 0)
 have hg1 : w.heap.size ≤ g + 1 := by omega
 rw [← hg]
 clear hg K0 M0 He hmm
 have M1 := hU M1; have E1 := hU E1
 go_loopw [14] (fun i wr => ∃ k : Nat, k ≤ l.length ∧ i = .int .i64 k ∧ allTo (logAt l) k = true ∧ MapAt wr (g + 1) k (cntF (l.take k)) ∧ Ext w wr) (fun i _ => l.length - (intOf i).toNat)
 case atStart => exact ⟨0, Nat.zero_le _, rfl, rfl, by rw [List.take_zero, cntF_nil]; exact M1.out, E1.out⟩
 case round =>
  clear M1 E1
  obtain ⟨k, hk, rfl, hi, hM, he⟩ := hrel
  have Hi := hU hi; have KM := hU hM
  clear hi hM
  by_cases hlt : k < l.length
  case neg =>
   have E := hU (show fin = true by rw [F.out, show l.length = k by omega]; exact Hi.out)
   go_wp2_with fail
   go_ret
   exact ⟨ret_bool E.out.symm, he⟩
  obtain ⟨b, off, rfl, hb, hc⟩ := Reads.at_ (HR.out.ext he).reads (k := k) hlt
  obtain ⟨d, hd⟩ : ∃ d, d = l[k] := ⟨_, rfl⟩
  have hdl : l[k]? = some d := by rw [hd]; exact List.getElem?_eq_getElem hlt
  have hdo := Hok.out d (List.mem_of_getElem? hdl)
  obtain ⟨c0, c1, c2, c3, c4⟩ := entry_at hc hdl
  have Hdl := hU hdl
  have LA := hU (logAt_eq hdl)
  have NX := hU (cntF_next hdl)
  have hcl := cntT_le (l.take k) d.topic
  rw [List.length_take] at hcl
  have hc5 : cntT (l.take k) d.topic ≤ 512 := by omega
  have HDO := hU hdo
  have hts : d.topic.size ≤ maxLen := hdo.1
  have HT := hU hts
  clear hc hd hdl hcl hdo hts
  cases p1 : entryOk d
  · have E := hU (show fin = false by rw [F.out]; exact allTo_bad (k := k) (by rw [LA.out, p1]; rfl) _ hlt)
    go_wp2_with fail
    refine (EntryOk_any d _ HDO.out).mono ?_
    rintro e w1 ⟨rfl, h1⟩
    rw [p1]
    replace he := (he.new _).next h1
    go_wp2_with fail
    go_ret
    exact ⟨ret_bool E.out.symm, he⟩
  go_wp2_with fail
  refine (EntryOk_any d _ HDO.out).mono ?_
  rintro e w1 ⟨rfl, h1⟩
  rw [p1]
  have KE := (Blk.new wr 46 #[.string d.topic, .int .i64 d.index, .int .i64 d.time, .string d.key, .string d.body]).ext h1
  have hgw := KM.out.lt
  have h2 := Ext.next (Ext.new (Below.refl wr.heap.size wr) _) h1
  replace he := he.next h2; replace KM := hU (KM.out.ext h2)
  clear h1 h2 c0 c1 c2 c3 c4
  obtain ⟨q, hq⟩ : ∃ q, q = wr.heap.size := ⟨_, rfl⟩
  rw [← hq] at KE hgw
  rw [← hq]
  clear hq
  obtain ⟨r0, f0⟩ := KE.rules
  have LK := KM.out.look1 d.topic HT.out
  rw [cntF_get] at LK
  obtain ⟨m, hm⟩ : ∃ m, m = cntT (l.take k) d.topic := ⟨_, rfl⟩
  rw [← hm] at LK hc5
  have HMm := hU hm
  rw [← hm] at LA NX
  clear hm
  cases p2 : ((m : Int) == d.index)
  · have E := hU (show fin = false by rw [F.out]; exact allTo_bad (k := k) (by rw [LA.out, p1, p2]; rfl) _ hlt)
    have n2 : (d.index != (m : Int)) = true := by
     have : ¬ ((m : Int) = d.index) := by simpa using p2
     simp; omega
    clear p2
    go_wp2_with fail
    go_ret
    exact ⟨ret_bool E.out.symm, he⟩
  · have E := hU (show allTo (logAt l) (k + 1) = true from allTo_good Hi.out (by rw [LA.out, p1, p2]; rfl))
    have n2 : (d.index != (m : Int)) = false := by
     have : (m : Int) = d.index := by simpa using p2
     simp; omega
    clear p2
    go_wp2_with (at_mapUpdate; refine wpList_store_at _ rfl _ _ _ rfl (g + 1) k (m + 1) d.topic (cntF (l.take k)) rfl KM.out (by unfold maxLen; omega) rfl (by rfl) HT.out (by omega) ?_)
    intro w2 hM2 hgr
    have he2 := Ext.mapGrown he hgr hg1
    rw [NX.out] at hM2
    have KM2 := hU hM2
    clear hM2 hgr KM he KE r0 f0 LK
    go_wp2_with fail
    go_roundw
    case rel => exact ⟨k + 1, by omega, by go_num, E.out, KM2.out, he2⟩
    case measure => simp [intOf]; omega
theorem specLogOk_any (A : Option Addr) (c : Nat) (l : List EntryD) (w : World) (hr : SlF AnyB EntryD.cells 5 w A l c) (hok : ∀ d ∈ l, d.Ok) :
 Calls Tryz.prog 66 #[.agg #[.slice A l.length c]] w fun e w' => e = .returned (.bool (logOk l)) ∧ Ext w w' := by
 have K0 := hU ((Blk.new w 51 #[.slice A l.length c]))
 have He := hU (Ext.new (Below.refl w.heap.size w) (.cells #[.slice A l.length c] 51))
 have HR := hU hr
 have Hok := hU hok
 have hlm := hr.len
 have hle := hr.le
 unfold maxLen at hlm
 obtain ⟨fin, hfin⟩ : ∃ fin, fin = logOk l := ⟨_, rfl⟩
 rw [← hfin]
 by_cases h5 : l.length ≤ 512
 case neg =>
  have E := hU (show fin = false by rw [hfin, logOk, decide_eq_false h5]; rfl)
  have h6 : (512 : Int) < (l.length : Int) := by omega
  clear hfin
  go_enter Tryz.func66, Tryz.ntmps66
  go_wp2_with fail
  go_ret
  exact ⟨ret_bool E.out.symm, He.out⟩
 have F := hU (show fin = allTo (logAt l) l.length by rw [hfin, logOk, decide_eq_true h5]; rfl)
 clear hfin hok hr
 go_enter Tryz.func66, Tryz.ntmps66
 go_wp2_with fail
 obtain ⟨g, hg⟩ : ∃ g, g = w.heap.size := ⟨_, rfl⟩
 rw [← hg] at K0
 rw [← hg]
 clear hg
 go_loopw [3] (fun i wr => ∃ k : Nat, k ≤ l.length ∧ i = .int .i64 k ∧ allTo (logAt l) k = true ∧ Blk wr g 51 #[.slice A l.length c] ∧ Ext w wr) (fun i _ => l.length - (intOf i).toNat)
 case atStart => exact ⟨0, Nat.zero_le _, rfl, rfl, K0.out, He.out⟩
 case round =>
  clear K0 He
  obtain ⟨k, hk, rfl, hi, k0, he⟩ := hrel
  have Hi := hU hi
  clear hi
  obtain ⟨r9, f9⟩ := k0.rules
  by_cases hlt : k < l.length
  case neg =>
   have E := hU (show fin = true by rw [F.out, show l.length = k by omega]; exact Hi.out)
   go_wp2_with fail
   go_ret
   exact ⟨ret_bool E.out.symm, he⟩
  obtain ⟨b, off, rfl, hb, hc⟩ := Reads.at_ (HR.out.ext he).reads (k := k) hlt
  obtain ⟨d, hd⟩ : ∃ d, d = l[k] := ⟨_, rfl⟩
  have hdl : l[k]? = some d := by rw [hd]; exact List.getElem?_eq_getElem hlt
  have hdo := Hok.out d (List.mem_of_getElem? hdl)
  obtain ⟨c0, c1, c2, c3, c4⟩ := entry_at hc hdl
  have LA := hU (logAt_eq hdl)
  have HDO := hU hdo
  have hgl := k0.lt
  clear hc hd hdl hdo
  go_upto_region 7 with fail
  have h2 := Ext.new (Below.refl wr.heap.size wr) (.cells #[.string d.topic, .int .i64 d.index, .int .i64 d.time, .string d.key, .string d.body] 46)
  have ke := Blk.new wr 46 #[.string d.topic, .int .i64 d.index, .int .i64 d.time, .string d.key, .string d.body]
  replace k0 := k0.ext h2; replace he := he.next h2
  obtain ⟨q, hq⟩ : ∃ q, q = wr.heap.size := ⟨_, rfl⟩
  rw [← hq] at ke hgl
  rw [← hq]
  clear hq h2 c0 c1 c2 c3 c4 r9 f9
  generalize wr.alloc (.cells #[.string d.topic, .int .i64 d.index, .int .i64 d.time, .string d.key, .string d.body] 46) = w1 at *
  have hcc : k ≤ c := by omega
  refine wp_region_held_drew (S := fun w' => Blk w' g 51 #[.slice (some ⟨b, off, none⟩) l.length c] ∧ Blk w' q 46 #[.string d.topic, .int .i64 d.index, .int .i64 d.time, .string d.key, .string d.body] ∧ Ext w w') (by kernel_rfl) ⟨k0.drew, ke.drew, he.drew⟩ (fun hH => ?_)
  clear k0 ke he
  refine takeQ 0 (.agg #[.string d.topic, .int .i64 d.index, .int .i64 d.time, .string d.key, .string d.body]) (some 21) rfl rfl (by kernel_rfl) (Or.inl ⟨by rfl, ?y0⟩) hH ?r0
  case y0 => intro w' hS'; obtain ⟨s0, s1, s2⟩ := hS'; obtain ⟨r1, f1⟩ := s0.rules; obtain ⟨r2, f2⟩ := s1.rules; go_simp; try with_reducible rfl
  try simp only [zA]
  refine oneH 1 (oi := _) (some 22) (by kernel_rfl) rfl rfl rfl (fun K' hK => ?_)
  refine ⟨?_⟩
  rw [if_pos (by rfl)]
  go_simp
  refine (specEntryOk_any d _ HDO.out).mono ?_
  rintro e w2 ⟨rfl, h1⟩
  refine hK.out _ _ ⟨_, rfl⟩ ⟨hH.1.ext h1, hH.2.1.ext h1, hH.2.2.next h1⟩ (fun hH2 => ?_)
  clear hK K' hH h1
  have hH := hH2
  clear hH2
  cases p1 : entryOk d
  · have E := hU (show fin = false by rw [F.out]; exact allTo_bad (k := k) (by rw [LA.out, p1]; rfl) _ hlt)
    try simp only [zB]
    refine takeQ 2 (.bool true) (some 23) rfl rfl (by kernel_rfl) (Or.inl ⟨by rfl, ?ya2⟩) hH ?ra2
    case ya2 => intro w' hS'; go_simp; try with_reducible rfl
    try simp only [zA]
    refine takeQ 3 (.bool true) (some 24) rfl rfl (by kernel_rfl) (Or.inl ⟨by rfl, ?ya3⟩) hH ?ra3
    case ya3 => intro w' hS'; go_simp; try with_reducible rfl
    try simp only [zA]
    refine takeQ 4 (undef) (some 25) rfl rfl (by kernel_rfl) (Or.inr ⟨by go_simp, rfl⟩) hH ?ra4
    try simp only [zB]
    refine takeQ 5 (undef) (some 26) rfl rfl (by kernel_rfl) (Or.inr ⟨by go_simp, rfl⟩) hH ?ra5
    try simp only [zB]
    refine takeQ 6 (undef) (some 27) rfl rfl (by kernel_rfl) (Or.inr ⟨by go_simp, rfl⟩) hH ?ra6
    try simp only [zB]
    refine takeQ 7 (undef) (some 28) rfl rfl (by kernel_rfl) (Or.inr ⟨by go_simp, rfl⟩) hH ?ra7
    try simp only [zB]
    refine takeQ 8 (undef) (some 29) rfl rfl (by kernel_rfl) (Or.inr ⟨by go_simp, rfl⟩) hH ?ra8
    try simp only [zB]
    refine takeQ 9 (undef) (some 30) rfl rfl (by kernel_rfl) (Or.inr ⟨by go_simp, rfl⟩) hH ?ra9
    try simp only [zB]
    refine takeQ 10 (undef) (some 31) rfl rfl (by kernel_rfl) (Or.inr ⟨by go_simp, rfl⟩) hH ?ra10
    try simp only [zB]
    refine takeQ 11 (undef) (some 32) rfl rfl (by kernel_rfl) (Or.inr ⟨by go_simp, rfl⟩) hH ?ra11
    try simp only [zB]
    refine takeQ 12 (undef) (some 33) rfl rfl (by kernel_rfl) (Or.inr ⟨by go_simp, rfl⟩) hH ?ra12
    try simp only [zB]
    refine takeQ 13 (undef) (some 34) rfl rfl (by kernel_rfl) (Or.inr ⟨by go_simp, rfl⟩) hH ?ra13
    try simp only [zB]
    refine takeQ 14 (.bool true) (some 35) rfl rfl (by kernel_rfl) (Or.inl ⟨by rfl, ?ya14⟩) hH ?ra14
    case ya14 => intro w' hS'; go_simp; try with_reducible rfl
    try simp only [zA]
    have he2 := hH.2.2
    clear hH
    refine wpAnyH_done (by kernel_rfl) ?_ _
    go_wp2_with fail
    go_ret
    exact ⟨ret_bool E.out.symm, he2⟩
  · have hlk : (l.take k).length = k := by rw [List.length_take]; omega
    have CN : Hid (∀ W : World, Ext w W → Calls Tryz.prog 125 #[.slice (some ⟨b, off, none⟩) k c, .string d.topic] W fun e w' => e = .returned (.int .i64 (cntT (l.take k) d.topic : Int)) ∧ W = w') := hU (fun W h => by
     have := l09Count_any (some ⟨b, off, none⟩) c (l.take k) d.topic W (reads_take EntryD.cells_length (HR.out.ext h).reads k (by omega)) (by omega)
     rw [hlk] at this
     exact this)
    have hcl := cntT_le (l.take k) d.topic
    rw [hlk] at hcl
    obtain ⟨m, hm⟩ : ∃ m, m = cntT (l.take k) d.topic := ⟨_, rfl⟩
    rw [← hm] at LA CN hcl
    clear hm
    try simp only [zB]
    refine takeQ 2 (.bool false) (some 23) rfl rfl (by kernel_rfl) (Or.inl ⟨by rfl, ?yb2⟩) hH ?rb2
    case yb2 => intro w' hS'; go_simp; try with_reducible rfl
    try simp only [zA]
    refine takeQ 3 (.bool false) (some 24) rfl rfl (by kernel_rfl) (Or.inl ⟨by rfl, ?yb3⟩) hH ?rb3
    case yb3 => intro w' hS'; go_simp; try with_reducible rfl
    try simp only [zA]
    refine takeQ 4 (.pointer (some ⟨g, 0, none⟩)) (some 25) rfl rfl (by kernel_rfl) (Or.inl ⟨by rfl, ?yb4⟩) hH ?rb4
    case yb4 => intro w' hS'; go_simp; try with_reducible rfl
    try simp only [zA]
    refine takeQ 5 (.slice (some ⟨b, off, none⟩) l.length c) (some 26) rfl rfl (by kernel_rfl) (Or.inl ⟨by rfl, ?yb5⟩) hH ?rb5
    case yb5 => intro w' hS'; obtain ⟨s0, s1, s2⟩ := hS'; obtain ⟨r1, f1⟩ := s0.rules; obtain ⟨r2, f2⟩ := s1.rules; go_simp; try with_reducible rfl
    try simp only [zA]
    refine takeQ 6 (.int .i64 (k : Int)) (some 27) rfl rfl (by kernel_rfl) (Or.inl ⟨by rfl, ?yb6⟩) hH ?rb6
    case yb6 => intro w' hS'; obtain ⟨s0, s1, s2⟩ := hS'; obtain ⟨r1, f1⟩ := s0.rules; obtain ⟨r2, f2⟩ := s1.rules; go_simp; try with_reducible rfl
    try simp only [zA]
    refine takeQ 7 (.slice (some ⟨b, off, none⟩) k c) (some 28) rfl rfl (by kernel_rfl) (Or.inl ⟨by rfl, ?yb7⟩) hH ?rb7
    case yb7 => intro w' hS'; obtain ⟨s0, s1, s2⟩ := hS'; obtain ⟨r1, f1⟩ := s0.rules; obtain ⟨r2, f2⟩ := s1.rules; go_simp; try with_reducible rfl
    try simp only [zA]
    refine takeQ 8 (.pointer (some ⟨q, 0, none⟩)) (some 29) rfl rfl (by kernel_rfl) (Or.inl ⟨by rfl, ?yb8⟩) hH ?rb8
    case yb8 => intro w' hS'; go_simp; try with_reducible rfl
    try simp only [zA]
    refine takeQ 9 (.string d.topic) (some 30) rfl rfl (by kernel_rfl) (Or.inl ⟨by rfl, ?yb9⟩) hH ?rb9
    case yb9 => intro w' hS'; obtain ⟨s0, s1, s2⟩ := hS'; obtain ⟨r1, f1⟩ := s0.rules; obtain ⟨r2, f2⟩ := s1.rules; go_simp; try with_reducible rfl
    try simp only [zA]
    refine takeQ 11 (.pointer (some ⟨q, 1, none⟩)) (some 32) rfl rfl (by kernel_rfl) (Or.inl ⟨by rfl, ?yb11⟩) hH ?rb11
    case yb11 => intro w' hS'; go_simp; try with_reducible rfl
    try simp only [zA]
    refine takeQ 12 (.int .i64 d.index) (some 33) rfl rfl (by kernel_rfl) (Or.inl ⟨by rfl, ?yb12⟩) hH ?rb12
    case yb12 => intro w' hS'; obtain ⟨s0, s1, s2⟩ := hS'; obtain ⟨r1, f1⟩ := s0.rules; obtain ⟨r2, f2⟩ := s1.rules; go_simp; try with_reducible rfl
    try simp only [zA]
    refine oneHw 10 (oi := _) (some 31) (by kernel_rfl) rfl (by rfl) rfl (fun K' hK => ?_)
    refine ⟨?_⟩
    rw [if_pos (by rfl)]
    go_simp
    refine (CN.out _ hH.2.2).mono ?_
    rintro e w3 ⟨rfl, rfl⟩
    refine hK.out _ _ ⟨_, rfl⟩ hH (fun hH2 => ?_)
    clear hK K' hH
    have hH := hH2
    clear hH2
    cases p2 : ((m : Int) == d.index)
    · have n2 : ((m : Int) != d.index) = true := by rw [bne, p2]; rfl
      try simp only [zB]
      refine takeQ 13 (.bool true) (some 34) rfl rfl (by kernel_rfl) (Or.inl ⟨by rfl, ?yc13⟩) hH ?rc13
      case yc13 => intro w' hS'; go_simp; try with_reducible rfl
      try simp only [zA]
      refine takeQ 14 (.bool true) (some 35) rfl rfl (by kernel_rfl) (Or.inl ⟨by rfl, ?yc14⟩) hH ?rc14
      case yc14 => intro w' hS'; go_simp; try with_reducible rfl
      try simp only [zA]
      have E := hU (show fin = false by rw [F.out]; exact allTo_bad (k := k) (by rw [LA.out, p1, p2]; rfl) _ hlt)
      have HH := hU hH
      clear hH
      refine wpAnyH_done (by kernel_rfl) ?_ _
      go_wp2_with fail
      go_ret
      exact ⟨ret_bool E.out.symm, HH.out.2.2⟩
    · have n2 : ((m : Int) != d.index) = false := by rw [bne, p2]; rfl
      try simp only [zB]
      refine takeQ 13 (.bool false) (some 34) rfl rfl (by kernel_rfl) (Or.inl ⟨by rfl, ?yd13⟩) hH ?rd13
      case yd13 => intro w' hS'; go_simp; try with_reducible rfl
      try simp only [zA]
      refine takeQ 14 (.bool false) (some 35) rfl rfl (by kernel_rfl) (Or.inl ⟨by rfl, ?yd14⟩) hH ?rd14
      case yd14 => intro w' hS'; go_simp; try with_reducible rfl
      try simp only [zA]
      have E := hU (show allTo (logAt l) (k + 1) = true from allTo_good Hi.out (by rw [LA.out, p1, p2]; rfl))
      have HH := hU hH
      clear hH
      refine wpAnyH_done (by kernel_rfl) ?_ _
      go_wp2_with fail
      go_roundw
      case rel => exact ⟨k + 1, by omega, by go_num, E.out, HH.out.1, HH.out.2.2⟩
      case measure => simp [intOf]; omega
end Go.Proofs.YtlgdghpnfclgpaaGreat

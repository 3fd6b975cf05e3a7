/-
  LogOks; LeafAt; Root5: No condition.
-/
import Derived.Test.YtgeengkdgdjcjaaGreatBroker0
import Derived.Test.YtgeengkdgdjcjaaGreatMapStr
import Derived.Test.YtgeengkdgdjcjaaGreatMapRec
import Derived.Test.YtgeengkdgdjcjaaGreatBunch
namespace Go.Proofs.YtgeengkdgdjcjaaGreat
set_option maxHeartbeats 2000000
set_option maxRecDepth 100000
set_option linter.unusedSimpArgs false
open Go.RowKit
set_option linter.unusedVariables false
def cntF (l : List EntryD) (t : ByteArray) : Option Nat := if cntT l t = 0 then none else some (cntT l t)
theorem cntF_nil : cntF [] = fun _ => none := rfl
theorem cntF_get (l : List EntryD) (t : ByteArray) : (cntF l t).getD 0 = cntT l t := by
 unfold cntF
 split
 · simp; omega
 · rfl
theorem cntF_next {l : List EntryD} {k : Nat} {d : EntryD} (hd : l[k]? = some d) : fput (cntF (l.take k)) d.topic (cntT (l.take k) d.topic + 1) = cntF (l.take (k + 1)) := by
 funext t
 unfold fput cntF
 rw [cntT_next hd]
 by_cases e : t = d.topic
 · subst e
   rw [if_pos rfl, if_pos (show ofTopic d.topic d = true by simp [ofTopic]), if_neg (by omega)]
 · have : ofTopic t d = false := by
    simp only [ofTopic, beq_eq_false_iff_ne, ne_eq]
    intro h
    exact e (bytes_toList.1 h).symm
   simp [e, this]
theorem logAt_eq {l : List EntryD} {k : Nat} {d : EntryD} (hd : l[k]? = some d) : logAt l k = (entryOk d && ((cntT (l.take k) d.topic : Int) == d.index)) := by rw [logAt, hd]
theorem reads_take {α : Type} {f : α → List Value} {size : Nat} {w : World} {B : Nat} {A : Option Addr} {l : List α} (hf : ∀ a, (f a).length = size) (h : ReadsL w B f size A l) (k : Nat) (hk : k ≤ l.length) : ReadsL w B f size A (l.take k) := by
 refine ⟨flat_len f size hf _, fun hn => ?_⟩
 obtain ⟨b, off, e, hb, hc⟩ := h.2 (by rw [List.length_take] at hn; omega)
 refine ⟨b, off, e, hb, fun j u hu => hc j u ?_⟩
 conv => lhs; rw [← List.take_append_drop k l, List.flatMap_append]
 rw [List.getElem?_append_left (List.getElem?_eq_some_iff.1 hu).1]
 exact hu
theorem implLogOk_any (A : Option Addr) (c : Nat) (l : List EntryD) (w : World) (hr : SlF AnyB EntryD.cells 5 w A l c) (hok : ∀ d ∈ l, d.Ok) :
 Calls Tryz.prog 57 #[.agg #[.slice A l.length c]] w fun e w' => e = .returned (.bool (logOk l)) ∧ Ext w w' := by
 have K0 := hU ((Blk.new w 26 #[.slice A l.length c]))
 have He := hU (Ext.new (Below.refl w.heap.size w) (.cells #[.slice A l.length c] 26))
 have HR := hU hr
 have Hok := hU hok
 have hlm := hr.len
 unfold maxLen at hlm
 obtain ⟨fin, hfin⟩ : ∃ fin, fin = logOk l := ⟨_, rfl⟩
 rw [← hfin]
 by_cases h5 : l.length ≤ 512
 case neg =>
  have E := hU (show fin = false by rw [hfin, logOk, decide_eq_false h5]; rfl)
  have h6 : (512 : Int) < (l.length : Int) := by omega
  clear hfin
  go_enter Tryz.func57, Tryz.ntmps57
  go_wp2_with fail
  go_ret
  exact ⟨ret_bool E.out.symm, He.out⟩
 have F := hU (show fin = allTo (logAt l) l.length by rw [hfin, logOk, decide_eq_true h5]; rfl)
 clear hfin hok hr
 have hmm := @run_makeMap Tryz.prog
 have M0 := hU (MapAt.made (w.alloc (.cells #[.slice A l.length c] 26)))
 go_enter Tryz.func57, Tryz.ntmps57
 go_wp2_with fail
 obtain ⟨g, hg⟩ : ∃ g, g = w.heap.size := ⟨_, rfl⟩
 have M1 := M0.out
 rw [World.size_alloc, ← hg] at M1
 have E1 := Ext.new He.out (.map #[] 0)
 have hg1 : w.heap.size ≤ g + 1 := by omega
 rw [← hg]
 clear hg K0 M0 He hmm
 have M1 := hU M1; have E1 := hU E1
 go_loopw [14] (fun i wr => ∃ k : Nat, k ≤ l.length ∧ i = .int .i64 k ∧ allTo (logAt l) k = true ∧ MapAt wr (g + 1) k (cntF (l.take k)) ∧ Ext w wr) (fun i _ => l.length - (intOf i).toNat)
 case atStart => exact ⟨0, Nat.zero_le _, rfl, rfl, by rw [List.take_zero, cntF_nil]; exact M1.out, E1.out⟩
 case round =>
  clear M1 E1
  obtain ⟨k, hk, rfl, hi, hM, he⟩ := hrel
  have Hi := hU hi; have KM := hU hM
  clear hi hM
  by_cases hlt : k < l.length
  case neg =>
   have E := hU (show fin = true by rw [F.out, show l.length = k by omega]; exact Hi.out)
   go_wp2_with fail
   go_ret
   exact ⟨ret_bool E.out.symm, he⟩
  obtain ⟨b, off, rfl, hb, hc⟩ := Reads.at_ (HR.out.ext he).reads (k := k) hlt
  obtain ⟨d, hd⟩ : ∃ d, d = l[k] := ⟨_, rfl⟩
  have hdl : l[k]? = some d := by rw [hd]; exact List.getElem?_eq_getElem hlt
  have hdo := Hok.out d (List.mem_of_getElem? hdl)
  obtain ⟨c0, c1, c2, c3, c4⟩ := entry_at hc hdl
  have Hdl := hU hdl
  have LA := hU (logAt_eq hdl)
  have NX := hU (cntF_next hdl)
  have hcl := cntT_le (l.take k) d.topic
  rw [List.length_take] at hcl
  have hc5 : cntT (l.take k) d.topic ≤ 512 := by omega
  have HDO := hU hdo
  have hts : d.topic.size ≤ maxLen := hdo.1
  have HT := hU hts
  clear hc hd hdl hcl hdo hts
  cases p1 : entryOk d
  · have E := hU (show fin = false by rw [F.out]; exact allTo_bad (k := k) (by rw [LA.out, p1]; rfl) _ hlt)
    go_wp2_with fail
    refine (EntryOk_any d _ HDO.out).mono ?_
    rintro e w1 ⟨rfl, h1⟩
    rw [p1]
    replace he := (he.new _).next h1
    go_wp2_with fail
    go_ret
    exact ⟨ret_bool E.out.symm, he⟩
  go_wp2_with fail
  refine (EntryOk_any d _ HDO.out).mono ?_
  rintro e w1 ⟨rfl, h1⟩
  rw [p1]
  have KE := (Blk.new wr 56 #[.string d.topic, .int .i64 d.index, .int .i64 d.time, .string d.key, .string d.body]).ext h1
  have hgw := KM.out.lt
  have h2 := Ext.next (Ext.new (Below.refl wr.heap.size wr) _) h1
  replace he := he.next h2; replace KM := hU (KM.out.ext h2)
  clear h1 h2 c0 c1 c2 c3 c4
  obtain ⟨q, hq⟩ : ∃ q, q = wr.heap.size := ⟨_, rfl⟩
  rw [← hq] at KE hgw
  rw [← hq]
  clear hq
  obtain ⟨r0, f0⟩ := KE.rules
  have LK := KM.out.look1 d.topic HT.out
  rw [cntF_get] at LK
  obtain ⟨m, hm⟩ : ∃ m, m = cntT (l.take k) d.topic := ⟨_, rfl⟩
  rw [← hm] at LK hc5
  have HMm := hU hm
  rw [← hm] at LA NX
  clear hm
  cases p2 : ((m : Int) == d.index)
  · have E := hU (show fin = false by rw [F.out]; exact allTo_bad (k := k) (by rw [LA.out, p1, p2]; rfl) _ hlt)
    have n2 : (d.index != (m : Int)) = true := by
     have : ¬ ((m : Int) = d.index) := by simpa using p2
     simp; omega
    clear p2
    go_wp2_with fail
    go_ret
    exact ⟨ret_bool E.out.symm, he⟩
  · have E := hU (show allTo (logAt l) (k + 1) = true from allTo_good Hi.out (by rw [LA.out, p1, p2]; rfl))
    have n2 : (d.index != (m : Int)) = false := by
     have : (m : Int) = d.index := by simpa using p2
     simp; omega
    clear p2
    go_wp2_with (at_mapUpdate; refine wpList_store_at _ rfl _ _ _ rfl (g + 1) k (m + 1) d.topic (cntF (l.take k)) rfl KM.out (by unfold maxLen; omega) rfl (by rfl) HT.out (by omega) ?_)
    intro w2 hM2 hgr
    have he2 := Ext.mapGrown he hgr hg1
    rw [NX.out] at hM2
    have KM2 := hU hM2
    clear hM2 hgr KM he KE r0 f0 LK
    go_wp2_with fail
    go_roundw
    case rel => exact ⟨k + 1, by omega, by go_num, E.out, KM2.out, he2⟩
    case measure => simp [intOf]; omega

theorem slf_takeT {w : World} {b off c : Nat} {l : List ByteArray} (h : SlF AnyB sone 1 w (some ⟨b, off, none⟩) l c) (k : Nat) (hk : k ≤ l.length) : SlF AnyB sone 1 w (some ⟨b, off, none⟩) (l.take k) c :=
 ⟨by have := h.le; rw [List.length_take]; omega, h.cap, reads_take (f := sone) (size := 1) (fun _ => rfl) h.reads k hk, fun _ _ _ => trivial⟩
theorem slf_dropT {w : World} {b off c : Nat} {l : List ByteArray} (h : SlF AnyB sone 1 w (some ⟨b, off, none⟩) l c) (k : Nat) (hk : k < l.length) : SlF AnyB sone 1 w (some ⟨b, off + k, none⟩) (l.drop k) (c - k) := by
 refine ⟨by have := h.le; rw [List.length_drop]; omega, by have := h.cap; omega, ⟨flat_len sone 1 (fun _ => rfl) _, fun hn => ?_⟩, fun _ _ _ => trivial⟩
 obtain ⟨b', off', e, hb, hc⟩ := h.reads.2 (by omega)
 cases e
 refine ⟨b, off + k, rfl, hb, fun j u hu => ?_⟩
 have e1 : l.flatMap sone = (l.take k).flatMap sone ++ (l.drop k).flatMap sone := by rw [← List.flatMap_append, List.take_append_drop]
 have e2 : ((l.take k).flatMap sone).length = k := by rw [flat_len sone 1 (fun _ => rfl) _, List.length_take]; omega
 have := hc (k + j) u (by rw [e1, List.getElem?_append_right (by omega), e2, Nat.add_sub_cancel_left]; exact hu)
 rw [Nat.add_assoc]; exact this
end Go.Proofs.YtgeengkdgdjcjaaGreat

/-
  LeafAt; Recs2; WriteB; LeafI; TakeB; SealW; SealB: No condition.
-/
import Derived.Test.YtgeengkdgdjcjaaGreatReopenP
import Derived.Test.YtgeengkdgdjcjaaGreatRecs
import Derived.Test.YtgeengkdgdjcjaaGreatHeadRead
import Derived.Test.YtgeengkdgdjcjaaGreatTextsB
import Derived.Test.YtgeengkdgdjcjaaGreatBroker1
import Derived.Test.YtgeengkdgdjcjaaGreatSealP
import Derived.Test.YtgeengkdgdjcjaaGreatHeadsOks
namespace Go.Proofs.YtgeengkdgdjcjaaGreat
set_option maxHeartbeats 2000000
set_option maxRecDepth 100000
set_option linter.unusedSimpArgs false
open Go.RowKit
set_option linter.unusedVariables false
theorem take_none {α : Type} {p : α → Bool} {l : List α} {k : Nat} {d : α} (h : ∀ x ∈ l.take k, p x = false) (hd : l[k]? = some d) (hp : p d = false) : ∀ x ∈ l.take (k + 1), p x = false := by
 obtain ⟨hk, rfl⟩ := List.getElem?_eq_some_iff.1 hd
 intro x hx
 rw [List.take_succ_eq_append_getElem hk, List.mem_append] at hx
 rcases hx with hx | hx
 · exact h x hx
 · obtain rfl := List.mem_singleton.1 hx
   exact hp
theorem l09Leaf_any {B : Nat} (A : Option Addr) (c : Nat) (l : List EntryD) (t : ByteArray) (ix : Int) (w : World) (hr : ReadsL w B EntryD.cells 5 A l) (hl : l.length ≤ 1048576) :
 Calls Tryz.prog 183 #[.slice A l.length c, .string t, .int .i64 ix] w fun e w' => e = .returned (.int .i64 (idxB (ofTI t ix) l)) ∧ w = w' := by
 have HR := hU hr
 obtain ⟨fin, hfin⟩ : ∃ fin, fin = idxB (ofTI t ix) l := ⟨_, rfl⟩
 rw [← hfin]
 have F := hU hfin
 clear hfin hr
 go_enter Tryz.func183, Tryz.ntmps183
 go_wp2_with fail
 go_loopw [7] (fun i wr => ∃ k : Nat, k ≤ l.length ∧ i = .int .i64 k ∧ (∀ x ∈ l.take k, ofTI t ix x = false) ∧ w = wr) (fun i _ => l.length - (intOf i).toNat)
 case atStart => exact ⟨0, Nat.zero_le _, rfl, by simp, rfl⟩
 case round =>
  obtain ⟨k, hk, rfl, hi, rfl⟩ := hrel
  have Hi := hU hi
  clear hi
  by_cases hlt : k < l.length
  case neg =>
   have E := hU (show fin = -1 by rw [F.out]; exact idxB_none (by have := Hi.out; rwa [show k = l.length by omega, List.take_length] at this))
   go_wp2_with fail
   go_ret
   exact ⟨ret_int E.out.symm, rfl⟩
  obtain ⟨b, off, rfl, hb, hc⟩ := Reads.at_ HR.out (k := k) hlt
  obtain ⟨d, hd⟩ : ∃ d, d = l[k] := ⟨_, rfl⟩
  have hdl : l[k]? = some d := by rw [hd]; exact List.getElem?_eq_getElem hlt
  obtain ⟨c0, c1, c2, c3, c4⟩ := entry_at hc hdl
  have Hdl := hU hdl
  have P := hU (show ofTI t ix d = ((d.topic.toList == t.toList) && (d.index == ix)) from rfl)
  clear hc hd hdl
  cases p1 : (d.topic.toList == t.toList)
  · have E := hU (take_none Hi.out Hdl.out (by rw [P.out, p1]; rfl))
    clear P
    go_wp2_with fail
    go_roundw
    case rel => exact ⟨k + 1, by omega, by go_num, E.out, trivial⟩
    case measure => simp [intOf]; omega
  by_cases p2 : d.index = ix
  · have E := hU (show fin = (k : Int) by rw [F.out]; exact idxB_at Hdl.out (by rw [P.out, p1, beq_iff_eq.2 p2]; rfl) Hi.out)
    clear P
    go_wp2_with fail
    go_ret
    exact ⟨ret_int E.out.symm, rfl⟩
  · have E := hU (take_none Hi.out Hdl.out (by rw [P.out, p1, beq_false_of_ne p2]; rfl))
    clear P
    go_wp2_with fail
    go_roundw
    case rel => exact ⟨k + 1, by omega, by go_num, E.out, trivial⟩
    case measure => simp [intOf]; omega
theorem l12At_any (A : Option Addr) (c : Nat) (l : List ReceiptD) (r : ReceiptD) (w : World) (hr : ReadsL w w.heap.size ReceiptD.cells 3 A l) (hl : l.length ≤ 1048576) :
 Calls Tryz.prog 184 #[.slice A l.length c, .agg #[.string r.reader, .string r.topic, .int .i64 r.index]] w fun e w' => e = .returned (.int .i64 (idxB (fun x => x.eqb r) l)) ∧ Ext w w' := by
 have HR := hU hr
 have K0 := hU (Blk.new w 58 #[.string r.reader, .string r.topic, .int .i64 r.index])
 have He := hU (Ext.new (Below.refl w.heap.size w) (.cells #[.string r.reader, .string r.topic, .int .i64 r.index] 58))
 obtain ⟨fin, hfin⟩ : ∃ fin, fin = idxB (fun x : ReceiptD => x.eqb r) l := ⟨_, rfl⟩
 rw [← hfin]
 have F := hU hfin
 clear hfin hr
 go_enter Tryz.func184, Tryz.ntmps184
 go_wp2_with fail
 obtain ⟨g, hg⟩ : ∃ g, g = w.heap.size := ⟨_, rfl⟩
 rw [← hg] at K0
 rw [← hg]
 clear hg
 go_loopw [5] (fun i wr => ∃ k : Nat, k ≤ l.length ∧ i = .int .i64 k ∧ (∀ x ∈ l.take k, x.eqb r = false) ∧ Blk wr g 58 #[.string r.reader, .string r.topic, .int .i64 r.index] ∧ Ext w wr) (fun i _ => l.length - (intOf i).toNat)
 case atStart => exact ⟨0, Nat.zero_le _, rfl, by simp, K0.out, He.out⟩
 case round =>
  clear K0 He
  obtain ⟨k, hk, rfl, hi, k0, he⟩ := hrel
  have Hi := hU hi
  obtain ⟨r0, m0⟩ := k0.rules
  have K0 := hU k0
  clear hi k0
  by_cases hlt : k < l.length
  case neg =>
   have E := hU (show fin = -1 by rw [F.out]; exact idxB_none (by have := Hi.out; rwa [show k = l.length by omega, List.take_length] at this))
   go_wp2_with fail
   go_ret
   exact ⟨ret_int E.out.symm, he⟩
  obtain ⟨b, off, rfl, hb, hc⟩ := Reads.at_ (HR.out.ext he) (k := k) hlt
  obtain ⟨d, hd⟩ : ∃ d, d = l[k] := ⟨_, rfl⟩
  have hdl : l[k]? = some d := by rw [hd]; exact List.getElem?_eq_getElem hlt
  obtain ⟨c0, c1, c2⟩ := rec_at hc hdl
  have Hdl := hU hdl
  have HQ := ReceiptD.run_eql d r
  clear hc hd hdl
  cases p1 : d.eqb r
  · have E := hU (take_none (p := fun x : ReceiptD => x.eqb r) Hi.out Hdl.out p1)
    go_wp2_with fail
    go_quiet (fail)
    go_wp2_with fail
    go_roundw
    case rel => exact ⟨k + 1, by omega, by go_num, E.out, K0.out.drewN _, he.drewN _⟩
    case measure => simp [intOf]; omega
  · have E := hU (show fin = (k : Int) by rw [F.out]; exact idxB_at Hdl.out p1 Hi.out)
    go_wp2_with fail
    go_quiet (fail)
    go_wp2_with fail
    go_ret
    exact ⟨ret_int E.out.symm, he.drewN _⟩
theorem headText_le (n : Int) (h : HeadD) : (headText n h).size ≤ 1000 := by
 cases k : headOk n h
 · rw [headText, k]; exact Nat.zero_le _
 · have := (headText_fits k).2; omega
theorem leafClosure_any (d : EntryD) (t : ByteArray) (ix : Int) (g1 g2 : Nat) (w : World) (hg1 : g1 < w.heap.size) (hg2 : g2 < w.heap.size) (h1 : w.cell? ⟨g1, 0, none⟩ = some (.string t)) (h2 : w.cell? ⟨g2, 0, none⟩ = some (.int .i64 ix)) :
 Calls Tryz.prog 203 #[.agg #[.string d.topic, .int .i64 d.index, .int .i64 d.time, .string d.key, .string d.body], .pointer (some ⟨g1, 0, none⟩), .pointer (some ⟨g2, 0, none⟩)] w fun e w' => e = .returned (.bool (ofTI t ix d)) ∧ Ext w w' := by
 obtain ⟨r0, m0⟩ := (Blk.new w 56 #[.string d.topic, .int .i64 d.index, .int .i64 d.time, .string d.key, .string d.body]).rules
 have He := hU (Ext.new (Below.refl w.heap.size w) (.cells #[.string d.topic, .int .i64 d.index, .int .i64 d.time, .string d.key, .string d.body] 56))
 have k1 := (He.out.cell (p := ⟨g1, 0, none⟩) hg1).trans h1
 have k2 := (He.out.cell (p := ⟨g2, 0, none⟩) hg2).trans h2
 obtain ⟨fin, hfin⟩ : ∃ fin, fin = ofTI t ix d := ⟨_, rfl⟩
 rw [← hfin]
 cases p1 : (d.topic.toList == t.toList)
 · have E := hU (show fin = false by rw [hfin, ofTI, p1]; rfl)
   clear hfin
   go_enter Tryz.func203, Tryz.ntmps203
   go_wp2_with fail
   go_ret
   exact ⟨ret_bool E.out.symm, He.out⟩
 · have E := hU (show fin = (d.index == ix) by rw [hfin, ofTI, p1]; rfl)
   clear hfin
   go_enter Tryz.func203, Tryz.ntmps203
   go_wp2_with fail
   go_ret
   exact ⟨ret_bool E.out.symm, He.out⟩
theorem indexEntry_any (A : Option Addr) (c : Nat) (l : List EntryD) (t : ByteArray) (ix : Int) (g1 g2 : Nat) (w : World) (hr : ReadsL w w.heap.size EntryD.cells 5 A l) (hl : l.length ≤ 1048576) (hg1 : g1 < w.heap.size) (hg2 : g2 < w.heap.size) (h1 : w.cell? ⟨g1, 0, none⟩ = some (.string t)) (h2 : w.cell? ⟨g2, 0, none⟩ = some (.int .i64 ix)) :
 Calls Tryz.prog 202 #[.slice A l.length c, .func (.func 203) #[] #[.pointer (some ⟨g1, 0, none⟩), .pointer (some ⟨g2, 0, none⟩)]] w fun e w' => e = .returned (.int .i64 (idxB (ofTI t ix) l)) ∧ Ext w w' := by
 have HR := hU hr
 have H1 := hU h1; have H2 := hU h2
 obtain ⟨fin, hfin⟩ : ∃ fin, fin = idxB (ofTI t ix) l := ⟨_, rfl⟩
 rw [← hfin]
 have F := hU hfin
 clear hfin hr h1 h2
 go_enter Tryz.func202, Tryz.ntmps202
 go_wp2_with fail
 go_loopw [8] (fun i wr => ∃ k : Nat, k ≤ l.length ∧ i = .int .i64 k ∧ (∀ x ∈ l.take k, ofTI t ix x = false) ∧ Ext w wr) (fun i _ => l.length - (intOf i).toNat)
 case atStart => exact ⟨0, Nat.zero_le _, rfl, by simp, Below.refl w.heap.size w⟩
 case round =>
  obtain ⟨k, hk, rfl, hi, he⟩ := hrel
  have Hi := hU hi
  clear hi
  by_cases hlt : k < l.length
  case neg =>
   have E := hU (show fin = -1 by rw [F.out]; exact idxB_none (by have := Hi.out; rwa [show k = l.length by omega, List.take_length] at this))
   go_wp2_with fail
   go_ret
   exact ⟨ret_int E.out.symm, he⟩
  obtain ⟨b, off, rfl, hb, hc⟩ := Reads.at_ (HR.out.ext he) (k := k) hlt
  obtain ⟨d, hd⟩ : ∃ d, d = l[k] := ⟨_, rfl⟩
  have hdl : l[k]? = some d := by rw [hd]; exact List.getElem?_eq_getElem hlt
  obtain ⟨c0, c1, c2, c3, c4⟩ := entry_at hc hdl
  have Hdl := hU hdl
  have CC := hU (fun W => leafClosure_any d t ix g1 g2 W)
  have hes := he.size
  have J1 : wr.cell? ⟨g1, 0, none⟩ = some (.string t) := (he.cell (p := ⟨g1, 0, none⟩) hg1).trans H1.out
  have J2 : wr.cell? ⟨g2, 0, none⟩ = some (.int .i64 ix) := (he.cell (p := ⟨g2, 0, none⟩) hg2).trans H2.out
  have K := hU (CC.out wr (by omega) (by omega) J1 J2)
  have K2 : Hid (Calls Tryz.prog 203 #[.agg #[.string d.topic, .int .i64 d.index, .int .i64 d.time, .string d.key, .string d.body], .pointer (some ⟨g1, 0, none⟩), .pointer (some ⟨g2, 0, none⟩)] wr.drew fun e w' => e = .returned (.bool (ofTI t ix d)) ∧ Ext wr.drew w') := hU (CC.out wr.drew (by exact Nat.lt_of_lt_of_le hg1 hes) (by exact Nat.lt_of_lt_of_le hg2 hes) J1 J2)
  clear hc hd hdl J1 J2 CC
  have TN := hU (fun h => take_none Hi.out Hdl.out h)
  go_wp2_with fail
  refine K.out.mono ?_
  rintro e w2 ⟨rfl, h1⟩
  have he2 := he.next h1
  clear he h1 K K2 c0 c1 c2 c3 c4
  cases p1 : ofTI t ix d
  · have E := hU (TN.out p1)
    go_wp2_with fail
    go_roundw
    case rel => exact ⟨k + 1, by omega, by go_num, E.out, he2⟩
    case measure => simp [intOf]; omega
  · have E := hU (show fin = (k : Int) by rw [F.out]; exact idxB_at Hdl.out p1 Hi.out)
    go_wp2_with fail
    go_ret
    exact ⟨ret_int E.out.symm, he2⟩
theorem leafOf_any (A : Option Addr) (c : Nat) (l : List EntryD) (t : ByteArray) (ix : Int) (w : World) (hr : ReadsL w w.heap.size EntryD.cells 5 A l) (hl : l.length ≤ 1048576) :
 Calls Tryz.prog 127 #[.agg #[.slice A l.length c], .string t, .int .i64 ix] w fun e w' => e = .returned (.int .i64 (idxB (ofTI t ix) l)) ∧ Ext w w' := by
 have hmf : ∀ (fn : Fn) (first cap : Array Value) (w : World), (Instr.makeFunc fn first cap).run Tryz.prog w = .ok (.func fn first cap) w := fun _ _ _ _ => rfl
 have K0 := Blk.new w 26 #[.slice A l.length c]
 have E1 := Ext.new (Below.refl w.heap.size w) (.cells #[.slice A l.length c] 26)
 obtain ⟨w1, hw1⟩ : ∃ w1, w1 = w.alloc (.cells #[.slice A l.length c] 26) := ⟨_, rfl⟩
 have hs1 : w1.heap.size = w.heap.size + 1 := by rw [hw1]; simp
 rw [← hw1] at K0 E1
 have K1 := Blk.new w1 9 #[.string t]
 have E2 := E1.new (.cells #[.string t] 9)
 have K01 := K0.alloc (.cells #[.string t] 9)
 obtain ⟨w2, hw2⟩ : ∃ w2, w2 = w1.alloc (.cells #[.string t] 9) := ⟨_, rfl⟩
 have hs2 : w2.heap.size = w1.heap.size + 1 := by rw [hw2]; simp
 rw [← hw2] at K1 E2 K01
 have K2 := Blk.new w2 3 #[.int .i64 ix]
 have E3 := E2.new (.cells #[.int .i64 ix] 3)
 have K012 := K01.alloc (.cells #[.int .i64 ix] 3)
 have K12 := K1.alloc (.cells #[.int .i64 ix] 3)
 obtain ⟨r0, m0⟩ := K012.rules
 rw [hs1] at K12
 have g1 := K12.lt
 have g2 := K2.lt
 have s1 : (w2.alloc (.cells #[.int .i64 ix] 3)).cell? ⟨w.heap.size + 1, 0, none⟩ = some (.string t) := K12.cell 0
 rw [hs2, hs1] at K2 g2
 have s2 : (w2.alloc (.cells #[.int .i64 ix] 3)).cell? ⟨w.heap.size + 1 + 1, 0, none⟩ = some (.int .i64 ix) := K2.cell 0
 have C := hU (indexEntry_any A c l t ix (w.heap.size + 1) (w.heap.size + 1 + 1) _ (hr.ext E3) hl g1 g2 s1 s2)
 have E3 := hU E3
 subst hw2
 subst hw1
 clear K0 E1 E2 K01 K1 K2 K012 K12 g1 g2 s1 s2 hs1 hs2
 go_enter Tryz.func127, Tryz.ntmps127
 go_wp2_with fail
 refine C.out.mono ?_
 rintro e w4 ⟨rfl, h4⟩
 go_wp2_with fail
 go_ret
 exact ⟨rfl, E3.out.next h4⟩
theorem last_any (g : Nat) (A : Option Addr) (c : Nat) (l : List HeadD) (w : World) (hc3 : w.cell? ⟨g, 3, none⟩ = some (.slice A l.length c)) (hg : g < w.heap.size) (hr : ReadsL w w.heap.size HeadD.cells 5 A l) (h0 : 0 < l.length) (hl : l.length ≤ 1048576) :
 Calls Tryz.prog 128 #[.pointer (some ⟨g, 0, none⟩)] w fun e w' => e = .returned (.agg #[.int .i64 (lastH l).number, .int .i64 (lastH l).size, .string (lastH l).root, .int .i64 (lastH l).taken, .string (lastH l).takenRoot]) ∧ Ext w w' := by
 obtain ⟨h, hh⟩ : ∃ h, h = lastH l := ⟨_, rfl⟩
 have hl1 := last_at h0
 rw [← hh] at hl1
 rw [← hh]
 obtain ⟨b, off, rfl, hb, hc⟩ := Reads.at_ hr (k := l.length - 1) (by omega)
 obtain ⟨k, hk⟩ : ∃ k, k = l.length - 1 := ⟨_, rfl⟩
 obtain ⟨L, hL⟩ : ∃ L, L = l.length := ⟨_, rfl⟩
 have c0 := hc 0 _ (flat_at _ 5 HeadD.cells_length l _ 0 h hl1 (by omega))
 have c1 := hc 1 _ (flat_at _ 5 HeadD.cells_length l _ 1 h hl1 (by omega))
 have c2 := hc 2 _ (flat_at _ 5 HeadD.cells_length l _ 2 h hl1 (by omega))
 have c3 := hc 3 _ (flat_at _ 5 HeadD.cells_length l _ 3 h hl1 (by omega))
 have c4 := hc 4 _ (flat_at _ 5 HeadD.cells_length l _ 4 h hl1 (by omega))
 rw [Nat.add_zero] at c0
 rw [← hk] at c0 c1 c2 c3 c4
 rw [← hL] at hc3 h0 hl hk
 have e1 : (L : Int) - 1 = (k : Int) := by omega
 have e2 : IntKind.i64.wrap (k : Int) = (k : Int) := IntWalk.i64_in _ (by omega)
 have hkL : k < L := by omega
 clear hc hl1 hk hL hr hh h0
 have K0 := Blk.new w 33 #[.int .i64 0, .int .i64 0, .string ⟨#[]⟩, .int .i64 0, .string ⟨#[]⟩]
 have E1 := Ext.new (Below.refl w.heap.size w) (.cells #[.int .i64 0, .int .i64 0, .string ⟨#[]⟩, .int .i64 0, .string ⟨#[]⟩] 33)
 obtain ⟨q, hq⟩ : ∃ q, q = w.heap.size := ⟨_, rfl⟩
 have x3 := (E1.cell (p := ⟨g, 3, none⟩) hg).trans hc3
 have x0 := (E1.cell (p := ⟨b, off + k * 5, none⟩) hb).trans c0
 have x1 := (E1.cell (p := ⟨b, off + k * 5 + 1, none⟩) hb).trans c1
 have x2 := (E1.cell (p := ⟨b, off + k * 5 + 2, none⟩) hb).trans c2
 have x4 := (E1.cell (p := ⟨b, off + k * 5 + 3, none⟩) hb).trans c3
 have x5 := (E1.cell (p := ⟨b, off + k * 5 + 4, none⟩) hb).trans c4
 have Hq := hU hq
 clear hq hc3 c0 c1 c2 c3 c4
 go_enter Tryz.func128, Tryz.ntmps128
 go_wp2_with fail
 rw [← Hq.out]
 have T := hU (show Blk (w.alloc (.cells #[.int .i64 0, .int .i64 0, .string ⟨#[]⟩, .int .i64 0, .string ⟨#[]⟩] 33)) q 33 #[.int .i64 0, .int .i64 0, .string ⟨#[]⟩, .int .i64 0, .string ⟨#[]⟩] by rw [Hq.out]; exact K0)
 clear K0
 generalize w.alloc (.cells #[.int .i64 0, .int .i64 0, .string ⟨#[]⟩, .int .i64 0, .string ⟨#[]⟩] 33) = w1 at *
 go_still_tail 12, (by kernel_rfl)
 change wpList _ _ _ _ _ w1.drew
 generalize hd : w1.drew = w2
 have T2 : Hid (Blk w2 q 33 #[.int .i64 0, .int .i64 0, .string ⟨#[]⟩, .int .i64 0, .string ⟨#[]⟩]) := hU (by rw [← hd]; exact T.out)
 have E2 : Ext w w2 := by rw [← hd]; exact E1.drew
 have hqw : w.heap.size ≤ q := by have := Hq.out; omega
 clear hd E1 T x3 x0 x1 x2 x4 x5
 have B2 := hU (T2.out.put 0 [.int .i64 h.number, .int .i64 h.size, .string h.root, .int .i64 h.taken, .string h.takenRoot] #[.int .i64 h.number, .int .i64 h.size, .string h.root, .int .i64 h.taken, .string h.takenRoot] (by simp) rfl)
 have E3 := hU (ext_setCells (W := w) (g := q) hqw [.int .i64 h.number, .int .i64 h.size, .string h.root, .int .i64 h.taken, .string h.takenRoot] 0 _ E2)
 obtain ⟨zc, zf⟩ := T2.out.rules
 go_wp2_with fail
 exact ret_row rfl rfl B2.out Tryz.underlying33 rfl (by kernel_rfl) rfl ⟨rfl, E3.out⟩
theorem row_put {K G T e s n : Nat} {w : World} {v : Value} {xs : List Value} {cs : Array Value} (h : w.ownsRow K e s v n xs) (hb : Blk w G T cs) (ht : T ≠ e) (vs : List Value) (o : Nat) : (w.setCells G o vs).ownsRow K e s v n xs :=
 (Frm.setCells (Frm.refl (fun b => b = G) w) (g := G) (fun _ => rfl) vs o).own h (fun y hy => own_ne h hb ht y hy)
def TkEnd (b : BrokerD) (r : ReceiptD) (K g : Nat) (ve vh v1 v2 : Value) (w : World) (e : Ending) (w' : World) : Prop :=
 ∃ vw, e = .returned (.tuple #[vw, .int .i64 (tkCode b r : Int)]) ∧ ((tkCode b r ≠ 0 ∧ Ext w w') ∨
  (tkCode b r = 0 ∧ ∃ vr, Blk w' g 37 (brkCs (tkB b r) ve vr vh v1 v2).toArray ∧ BRows K w' (tkB b r) ve vr vh v1 v2 ∧ w'.ownsRow K 63 3 vw 1 (writeW b 2 (receiptText r)).cells ∧ Below K w w'))
theorem TkEnd.no {b : BrokerD} {r : ReceiptD} {K g : Nat} {ve vh v1 v2 vw : Value} {w w' : World} {e : Ending} {k : Nat} (h : tkCode b r = k) (h0 : k ≠ 0) (he : e = .returned (.tuple #[vw, .int .i64 (k : Int)])) (hx : Ext w w') : TkEnd b r K g ve vh v1 v2 w e w' :=
 ⟨vw, by rw [h]; exact he, .inl ⟨by omega, hx⟩⟩
theorem slf_from {α : Type} {f : α → List Value} {size : Nat} {w : World} {A : Option Addr} {l : List α} {c : Nat} (hf : ∀ a, (f a).length = size) (h : SlF AnyB f size w A l c) (n : Nat) (hn : n ≤ l.length) : SlF AnyB f size w (partA A c n size) (l.drop n) (c - n) :=
 ⟨by rw [List.length_drop]; have := h.le; omega, by have := h.cap; omega, by have := reads_part hf h.reads (c := c) (n := n) (m := l.length) hn (Nat.le_refl _) h.le; rwa [List.take_of_length_le (by rw [List.length_drop]; omega)] at this, fun _ _ _ => trivial⟩
def SlEnd (b : BrokerD) (K g : Nat) (ve vr : Value) (w : World) (e : Ending) (w' : World) : Prop :=
 ∃ vw, e = .returned (.tuple #[vw, .int .i64 (slCode b : Int)]) ∧ ((slCode b ≠ 0 ∧ Ext w w') ∨
  (slCode b = 0 ∧ ∃ vh v1 v2, Blk w' g 37 (brkCs (slB b) ve vr vh v1 v2).toArray ∧ BRows K w' (slB b) ve vr vh v1 v2 ∧ (∀ x, v1.ownBlock = some x → v2.ownBlock ≠ some x) ∧ w'.ownsRow K 63 3 vw 1 (writeW b 1 (headText b.width (slHead b))).cells ∧ Below K w w'))
theorem SlEnd.no {b : BrokerD} {K g : Nat} {ve vr vw : Value} {w w' : World} {e : Ending} {k : Nat} (h : slCode b = k) (h0 : k ≠ 0) (he : e = .returned (.tuple #[vw, .int .i64 (k : Int)])) (hx : Ext w w') : SlEnd b K g ve vr w e w' :=
 ⟨vw, by rw [h]; exact he, .inl ⟨by omega, hx⟩⟩
theorem slMid_sz {b : BrokerD} {n1 n2 : Nat} (sf : SlF_ b n1 n2) (h : BSz b) : BSz (slMid b) := by
 have k1 := pc_le (slL b).length; have k2 := pc_le (slT b).length
 have e1 : (slL b).length = b.log.entries.length := by rw [slL, leavesH, List.length_map]
 have e2 : (slT b).length = b.receipts.length := by rw [slT, takenH, List.length_map]
 have := sf.le; have := sf.lr
 refine ⟨h.e, h.r, h.h, ?_, ?_⟩
 · show (peaksOf (ndB b.width) (slL b)).reverse.length ≤ 1048576
   rw [List.length_reverse, peaks_len]; omega
 · show (peaksOf (ndB b.width) (slT b)).reverse.length ≤ 1048576
   rw [List.length_reverse, peaks_len]; omega
end Go.Proofs.YtgeengkdgdjcjaaGreat

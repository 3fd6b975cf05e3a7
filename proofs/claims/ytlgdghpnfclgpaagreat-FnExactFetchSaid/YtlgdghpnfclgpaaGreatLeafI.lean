/-
  BrkV; HasN; LeafI: No condition.
-/
import Derived.Test.YtlgdghpnfclgpaaGreatBroker1
import Derived.Test.YtlgdghpnfclgpaaGreatDisk0
import Derived.Test.YtlgdghpnfclgpaaGreatFetchP
import Derived.Test.YtlgdghpnfclgpaaGreatRootI
namespace Go.Proofs.YtlgdghpnfclgpaaGreat
set_option linter.unusedSimpArgs false
open Go.RowKit
set_option linter.unusedVariables false
def brkV (b : BrokerD) (A0 : Option Addr) (c0 : Nat) (A1 : Option Addr) (c1 : Nat) (A2 : Option Addr) (c2 : Nat) (A3 : Option Addr) (c3 : Nat) (A4 : Option Addr) (c4 : Nat) : List Value :=
 [.int .i64 b.width, .slice A0 b.log.entries.length c0, .slice A1 b.receipts.length c1, .slice A2 b.heads.length c2, .int .i64 b.sealed.leaves.size, .slice A3 b.sealed.leaves.peaks.length c3, .int .i64 b.sealed.taken.size, .slice A4 b.sealed.taken.peaks.length c4, .int .i64 b.sealed.head.number, .int .i64 b.sealed.head.size, .string b.sealed.head.root, .int .i64 b.sealed.head.taken, .string b.sealed.head.takenRoot]
theorem brokerB_split (b : BrokerD) : brokerB b = (brkParts b && sameSealB (sealOfH b.width (leavesH b.width b.log.entries) (takenH b.width b.receipts) (lastH b.heads)) b.sealed) := rfl
theorem seal_lens {b : BrokerD} (h : brkParts b = true) : (sealOfH b.width (leavesH b.width b.log.entries) (takenH b.width b.receipts) (lastH b.heads)).leaves.peaks.length ≤ 1048576 ∧ (sealOfH b.width (leavesH b.width b.log.entries) (takenH b.width b.receipts) (lastH b.heads)).taken.peaks.length ≤ 1048576 := by
 simp only [brkParts, Bool.and_eq_true] at h
 have h1 := (logOk_all h.1.1.1.1.1.1.2).1
 have h2 := (recsOk_all h.1.1.1.1.1.2).1
 simp only [sealOfH, rangeOf, List.length_reverse, peaks_len]
 have a1 := pc_le ((leavesH b.width b.log.entries).take (lastH b.heads).size.toNat).length
 have a2 := pc_le ((takenH b.width b.receipts).take (lastH b.heads).taken.toNat).length
 rw [List.length_take, leavesH, List.length_map] at a1
 rw [List.length_take, takenH, List.length_map] at a2
 have b1 := Nat.min_le_right (lastH b.heads).size.toNat b.log.entries.length
 have b2 := Nat.min_le_right (lastH b.heads).taken.toNat b.receipts.length
 rw [List.length_take, List.length_take, leavesH, takenH, List.length_map, List.length_map]
 omega
set_option maxHeartbeats 2000000
set_option maxRecDepth 100000
def szP (n : Int) (h : HeadD) : Bool := h.size == n
theorem idx_any {α : Type} {p : α → Bool} (l : List α) : decide (0 ≤ idxB p l) = l.any p := by
 cases h : l.any p
 · rw [List.any_eq_false] at h
   rw [idxB_none (fun x hx => by simpa using h x hx)]; rfl
 · rw [decide_eq_true_eq]
   rcases Int.lt_or_le (idxB p l) 0 with h2 | h2
   · rw [List.any_eq_true] at h
     obtain ⟨x, hx, hp⟩ := h
     rw [idxB_neg h2 x hx] at hp; exact absurd hp (by decide)
   · exact h2
theorem head_at {l : List HeadD} {w : World} {b off : Nat} {k : Nat} {d : HeadD} (hc : ∀ j u, (l.flatMap HeadD.cells)[k * 5 + j]? = some u → w.cell? ⟨b, off + k * 5 + j, none⟩ = some u) (hd : l[k]? = some d) :
 w.cell? ⟨b, off + k * 5, none⟩ = some (.int .i64 d.number) ∧ w.cell? ⟨b, off + k * 5 + 1, none⟩ = some (.int .i64 d.size) ∧ w.cell? ⟨b, off + k * 5 + 2, none⟩ = some (.string d.root) ∧ w.cell? ⟨b, off + k * 5 + 3, none⟩ = some (.int .i64 d.taken) ∧ w.cell? ⟨b, off + k * 5 + 4, none⟩ = some (.string d.takenRoot) :=
 ⟨hc 0 _ (flat_at _ 5 HeadD.cells_length l k 0 d hd (by omega)), hc 1 _ (flat_at _ 5 HeadD.cells_length l k 1 d hd (by omega)), hc 2 _ (flat_at _ 5 HeadD.cells_length l k 2 d hd (by omega)), hc 3 _ (flat_at _ 5 HeadD.cells_length l k 3 d hd (by omega)), hc 4 _ (flat_at _ 5 HeadD.cells_length l k 4 d hd (by omega))⟩
theorem hasClosure_any (d : HeadD) (n : Int) (g1 : Nat) (w : World) (hg1 : g1 < w.heap.size) (h1 : w.cell? ⟨g1, 0, none⟩ = some (.int .i64 n)) :
 Calls Tryz.prog 221 #[.agg #[.int .i64 d.number, .int .i64 d.size, .string d.root, .int .i64 d.taken, .string d.takenRoot], .pointer (some ⟨g1, 0, none⟩)] w fun e w' => e = .returned (.bool (szP n d)) ∧ Ext w w' := by
 obtain ⟨r0, m0⟩ := (Blk.new w 55 #[.int .i64 d.number, .int .i64 d.size, .string d.root, .int .i64 d.taken, .string d.takenRoot]).rules
 have He := hU (Ext.new (Below.refl w.heap.size w) (.cells #[.int .i64 d.number, .int .i64 d.size, .string d.root, .int .i64 d.taken, .string d.takenRoot] 55))
 have k1 := (He.out.cell (p := ⟨g1, 0, none⟩) hg1).trans h1
 obtain ⟨fin, hfin⟩ : ∃ fin, fin = szP n d := ⟨_, rfl⟩
 rw [← hfin]
 have E := hU (show fin = (d.size == n) from hfin)
 clear hfin
 go_enter Tryz.func221, Tryz.ntmps221
 go_wp2_with fail
 go_ret
 exact ⟨ret_bool E.out.symm, He.out⟩
theorem indexHead_any (A : Option Addr) (c : Nat) (l : List HeadD) (n : Int) (g1 : Nat) (w : World) (hr : ReadsL w w.heap.size HeadD.cells 5 A l) (hl : l.length ≤ 1048576) (hg1 : g1 < w.heap.size) (h1 : w.cell? ⟨g1, 0, none⟩ = some (.int .i64 n)) :
 Calls Tryz.prog 241 #[.slice A l.length c, .func (.func 221) #[] #[.pointer (some ⟨g1, 0, none⟩)]] w fun e w' => e = .returned (.int .i64 (idxB (szP n) l)) ∧ Ext w w' := by
 have HR := hU hr
 have H1 := hU h1
 obtain ⟨fin, hfin⟩ : ∃ fin, fin = idxB (szP n) l := ⟨_, rfl⟩
 rw [← hfin]
 have F := hU hfin
 clear hfin hr h1
 go_enter Tryz.func241, Tryz.ntmps241
 go_wp2_with fail
 go_loopw [8] (fun i wr => ∃ k : Nat, k ≤ l.length ∧ i = .int .i64 k ∧ (∀ x ∈ l.take k, szP n x = false) ∧ Ext w wr) (fun i _ => l.length - (intOf i).toNat)
 case atStart => exact ⟨0, Nat.zero_le _, rfl, by simp, Below.refl w.heap.size w⟩
 case round =>
  obtain ⟨k, hk, rfl, hi, he⟩ := hrel
  have Hi := hU hi
  clear hi
  by_cases hlt : k < l.length
  case neg =>
   have E := hU (show fin = -1 by rw [F.out]; exact idxB_none (by have := Hi.out; rwa [show k = l.length by omega, List.take_length] at this))
   go_wp2_with fail
   go_ret
   exact ⟨ret_int E.out.symm, he⟩
  obtain ⟨b, off, rfl, hb, hc⟩ := Reads.at_ (HR.out.ext he) (k := k) hlt
  obtain ⟨d, hd⟩ : ∃ d, d = l[k] := ⟨_, rfl⟩
  have hdl : l[k]? = some d := by rw [hd]; exact List.getElem?_eq_getElem hlt
  obtain ⟨c0, c1, c2, c3, c4⟩ := head_at hc hdl
  have Hdl := hU hdl
  have CC := hU (fun W => hasClosure_any d n g1 W)
  have hes := he.size
  have J1 : wr.cell? ⟨g1, 0, none⟩ = some (.int .i64 n) := (he.cell (p := ⟨g1, 0, none⟩) hg1).trans H1.out
  have K := hU (CC.out wr (by omega) J1)
  have K2 : Hid (Calls Tryz.prog 221 #[.agg #[.int .i64 d.number, .int .i64 d.size, .string d.root, .int .i64 d.taken, .string d.takenRoot], .pointer (some ⟨g1, 0, none⟩)] wr.drew fun e w' => e = .returned (.bool (szP n d)) ∧ Ext wr.drew w') := hU (CC.out wr.drew (by exact Nat.lt_of_lt_of_le hg1 hes) J1)
  clear hc hd hdl J1 CC
  have TN := hU (fun h => take_none Hi.out Hdl.out h)
  go_wp2_with fail
  refine K.out.mono ?_
  rintro e w2 ⟨rfl, h1⟩
  have he2 := he.next h1
  clear he h1 K K2 c0 c1 c2 c3 c4
  cases p1 : szP n d
  · have E := hU (TN.out p1)
    go_wp2_with fail
    go_roundw
    case rel => exact ⟨k + 1, by omega, by go_num, E.out, he2⟩
    case measure => simp [intOf]; omega
  · have E := hU (show fin = (k : Int) by rw [F.out]; exact idxB_at Hdl.out p1 Hi.out)
    go_wp2_with fail
    go_ret
    exact ⟨ret_int E.out.symm, he2⟩
theorem containsHead_any (A : Option Addr) (c : Nat) (l : List HeadD) (n : Int) (g1 : Nat) (w : World) (hr : ReadsL w w.heap.size HeadD.cells 5 A l) (hl : l.length ≤ 1048576) (hg1 : g1 < w.heap.size) (h1 : w.cell? ⟨g1, 0, none⟩ = some (.int .i64 n)) :
 Calls Tryz.prog 220 #[.slice A l.length c, .func (.func 221) #[] #[.pointer (some ⟨g1, 0, none⟩)]] w fun e w' => e = .returned (.bool (l.any (szP n))) ∧ Ext w w' := by
 have K := hU (indexHead_any A c l n g1 w hr hl hg1 h1)
 have IX := hU (idx_any (p := szP n) l)
 obtain ⟨x, hx⟩ : ∃ x, x = idxB (szP n) l := ⟨_, rfl⟩
 rw [← hx] at K IX
 obtain ⟨fin, hfin⟩ : ∃ fin, fin = l.any (szP n) := ⟨_, rfl⟩
 rw [← hfin] at IX
 rw [← hfin]
 clear hr h1 hx hfin
 go_enter Tryz.func220, Tryz.ntmps220
 go_wp2_with fail
 refine K.out.mono ?_
 rintro e w2 ⟨rfl, h1⟩
 go_wp2_with fail
 go_ret
 exact ⟨ret_bool IX.out, h1⟩
theorem hasSize_any (g : Nat) (A : Option Addr) (c : Nat) (l : List HeadD) (n : Int) (w : World) (hc3 : w.cell? ⟨g, 3, none⟩ = some (.slice A l.length c)) (hg : g < w.heap.size) (hr : ReadsL w w.heap.size HeadD.cells 5 A l) (hl : l.length ≤ 1048576) :
 Calls Tryz.prog 178 #[.pointer (some ⟨g, 0, none⟩), .int .i64 n] w fun e w' => e = .returned (.bool (l.any (szP n))) ∧ Ext w w' := by
 have hmf : ∀ (fn : Fn) (first cap : Array Value) (w : World), (Instr.makeFunc fn first cap).run Tryz.prog w = .ok (.func fn first cap) w := fun _ _ _ _ => rfl
 have K0 := Blk.new w 3 #[.int .i64 n]
 have E1 := Ext.new (Below.refl w.heap.size w) (.cells #[.int .i64 n] 3)
 have g1 := K0.lt
 have s1 : (w.alloc (.cells #[.int .i64 n] 3)).cell? ⟨w.heap.size, 0, none⟩ = some (.int .i64 n) := K0.cell 0
 have x3 := (E1.cell (p := ⟨g, 3, none⟩) hg).trans hc3
 have C := hU (containsHead_any A c l n w.heap.size _ (hr.ext E1) hl g1 s1)
 have C2 : Hid (Calls Tryz.prog 220 #[.slice A l.length c, .func (.func 221) #[] #[.pointer (some ⟨w.heap.size, 0, none⟩)]] (w.alloc (.cells #[.int .i64 n] 3)).drew fun e w' => e = .returned (.bool (l.any (szP n))) ∧ Ext (w.alloc (.cells #[.int .i64 n] 3)).drew w') := hU (containsHead_any A c l n w.heap.size _ ((hr.ext E1).ext (Below.refl _ _).drew) hl g1 s1)
 have EH := hU E1
 clear K0 E1 hc3 hr s1
 go_enter Tryz.func178, Tryz.ntmps178
 go_wp2_with fail
 refine C.out.mono ?_
 rintro e w4 ⟨rfl, h4⟩
 go_wp2_with fail
 go_ret
 exact ⟨rfl, EH.out.next h4⟩
theorem l12HasSize_any (cs : List Value) (A : Option Addr) (c : Nat) (l : List HeadD) (n : Int) (w : World) (hl13 : cs.length = 13) (hc3 : cs[3]? = some (.slice A l.length c)) (hr : ReadsL w w.heap.size HeadD.cells 5 A l) (hl : l.length ≤ 1048576) :
 Calls Tryz.prog 104 #[.agg cs.toArray, .int .i64 n] w fun e w' => e = .returned (.bool (l.any (szP n))) ∧ Ext w w' := by
 have K0 := Blk.new w 59 cs.toArray
 have E0 := Ext.new (Below.refl w.heap.size w) (.cells cs.toArray 59)
 have HR := hU (hr.ext E0)
 have x3 : (w.alloc (.cells cs.toArray 59)).cell? ⟨w.heap.size, 3, none⟩ = some (.slice A l.length c) := (K0.cell 3).trans (by simpa using hc3)
 obtain ⟨fin, hfin⟩ : ∃ fin, fin = l.any (szP n) := ⟨_, rfl⟩
 rw [← hfin]
 have F := hU hfin
 have X3 := hU x3
 clear K0 hfin hr hc3 hl13
 go_enter Tryz.func104, Tryz.ntmps104
 go_wp2_with fail
 have EE := hU E0
 generalize w.alloc (.cells cs.toArray 59) = w1 at *
 go_loopw [5] (fun i wr => ∃ k : Nat, k ≤ l.length ∧ i = .int .i64 k ∧ (∀ x ∈ l.take k, szP n x = false) ∧ w1 = wr) (fun i _ => l.length - (intOf i).toNat)
 case atStart => exact ⟨0, Nat.zero_le _, rfl, by simp, rfl⟩
 case round =>
  obtain ⟨k, hk, rfl, hi, rfl⟩ := hrel
  have Hi := hU hi
  clear hi
  by_cases hlt : k < l.length
  case neg =>
   have E := hU (show fin = false by rw [F.out, List.any_eq_false]; intro x hx; have := Hi.out; rw [show k = l.length by omega, List.take_length] at this; simp [this x hx])
   go_wp2_with fail
   go_ret
   exact ⟨ret_bool E.out.symm, EE.out⟩
  obtain ⟨b, off, rfl, hb, hc⟩ := Reads.at_ HR.out (k := k) hlt
  obtain ⟨d, hd⟩ : ∃ d, d = l[k] := ⟨_, rfl⟩
  have hdl : l[k]? = some d := by rw [hd]; exact List.getElem?_eq_getElem hlt
  obtain ⟨c0, c1, c2, c3, c4⟩ := head_at hc hdl
  have Hdl := hU hdl
  clear hc hd hdl c0 c2 c3 c4
  by_cases p1 : d.size = n
  · have E := hU (show fin = true by rw [F.out, List.any_eq_true]; exact ⟨d, List.mem_of_getElem? Hdl.out, beq_iff_eq.2 p1⟩)
    go_wp2_with fail
    go_ret
    exact ⟨ret_bool E.out.symm, EE.out⟩
  · have E := hU (take_none Hi.out Hdl.out (beq_false_of_ne p1))
    go_wp2_with fail
    go_roundw
    case rel => exact ⟨k + 1, by omega, by go_num, E.out, trivial⟩
    case measure => simp [intOf]; omega
theorem leafClosure_any (d : EntryD) (t : ByteArray) (ix : Int) (g1 g2 : Nat) (w : World) (hg1 : g1 < w.heap.size) (hg2 : g2 < w.heap.size) (h1 : w.cell? ⟨g1, 0, none⟩ = some (.string t)) (h2 : w.cell? ⟨g2, 0, none⟩ = some (.int .i64 ix)) :
 Calls Tryz.prog 177 #[.agg #[.string d.topic, .int .i64 d.index, .int .i64 d.time, .string d.key, .string d.body], .pointer (some ⟨g1, 0, none⟩), .pointer (some ⟨g2, 0, none⟩)] w fun e w' => e = .returned (.bool (ofTI t ix d)) ∧ Ext w w' := by
 obtain ⟨r0, m0⟩ := (Blk.new w 46 #[.string d.topic, .int .i64 d.index, .int .i64 d.time, .string d.key, .string d.body]).rules
 have He := hU (Ext.new (Below.refl w.heap.size w) (.cells #[.string d.topic, .int .i64 d.index, .int .i64 d.time, .string d.key, .string d.body] 46))
 have k1 := (He.out.cell (p := ⟨g1, 0, none⟩) hg1).trans h1
 have k2 := (He.out.cell (p := ⟨g2, 0, none⟩) hg2).trans h2
 obtain ⟨fin, hfin⟩ : ∃ fin, fin = ofTI t ix d := ⟨_, rfl⟩
 rw [← hfin]
 cases p1 : (d.topic.toList == t.toList)
 · have E := hU (show fin = false by rw [hfin, ofTI, p1]; rfl)
   clear hfin
   go_enter Tryz.func177, Tryz.ntmps177
   go_wp2_with fail
   go_ret
   exact ⟨ret_bool E.out.symm, He.out⟩
 · have E := hU (show fin = (d.index == ix) by rw [hfin, ofTI, p1]; rfl)
   clear hfin
   go_enter Tryz.func177, Tryz.ntmps177
   go_wp2_with fail
   go_ret
   exact ⟨ret_bool E.out.symm, He.out⟩
theorem indexEntry_any (A : Option Addr) (c : Nat) (l : List EntryD) (t : ByteArray) (ix : Int) (g1 g2 : Nat) (w : World) (hr : ReadsL w w.heap.size EntryD.cells 5 A l) (hl : l.length ≤ 1048576) (hg1 : g1 < w.heap.size) (hg2 : g2 < w.heap.size) (h1 : w.cell? ⟨g1, 0, none⟩ = some (.string t)) (h2 : w.cell? ⟨g2, 0, none⟩ = some (.int .i64 ix)) :
 Calls Tryz.prog 176 #[.slice A l.length c, .func (.func 177) #[] #[.pointer (some ⟨g1, 0, none⟩), .pointer (some ⟨g2, 0, none⟩)]] w fun e w' => e = .returned (.int .i64 (idxB (ofTI t ix) l)) ∧ Ext w w' := by
 have HR := hU hr
 have H1 := hU h1; have H2 := hU h2
 obtain ⟨fin, hfin⟩ : ∃ fin, fin = idxB (ofTI t ix) l := ⟨_, rfl⟩
 rw [← hfin]
 have F := hU hfin
 clear hfin hr h1 h2
 go_enter Tryz.func176, Tryz.ntmps176
 go_wp2_with fail
 go_loopw [8] (fun i wr => ∃ k : Nat, k ≤ l.length ∧ i = .int .i64 k ∧ (∀ x ∈ l.take k, ofTI t ix x = false) ∧ Ext w wr) (fun i _ => l.length - (intOf i).toNat)
 case atStart => exact ⟨0, Nat.zero_le _, rfl, by simp, Below.refl w.heap.size w⟩
 case round =>
  obtain ⟨k, hk, rfl, hi, he⟩ := hrel
  have Hi := hU hi
  clear hi
  by_cases hlt : k < l.length
  case neg =>
   have E := hU (show fin = -1 by rw [F.out]; exact idxB_none (by have := Hi.out; rwa [show k = l.length by omega, List.take_length] at this))
   go_wp2_with fail
   go_ret
   exact ⟨ret_int E.out.symm, he⟩
  obtain ⟨b, off, rfl, hb, hc⟩ := Reads.at_ (HR.out.ext he) (k := k) hlt
  obtain ⟨d, hd⟩ : ∃ d, d = l[k] := ⟨_, rfl⟩
  have hdl : l[k]? = some d := by rw [hd]; exact List.getElem?_eq_getElem hlt
  obtain ⟨c0, c1, c2, c3, c4⟩ := entry_at hc hdl
  have Hdl := hU hdl
  have CC := hU (fun W => leafClosure_any d t ix g1 g2 W)
  have hes := he.size
  have J1 : wr.cell? ⟨g1, 0, none⟩ = some (.string t) := (he.cell (p := ⟨g1, 0, none⟩) hg1).trans H1.out
  have J2 : wr.cell? ⟨g2, 0, none⟩ = some (.int .i64 ix) := (he.cell (p := ⟨g2, 0, none⟩) hg2).trans H2.out
  have K := hU (CC.out wr (by omega) (by omega) J1 J2)
  have K2 : Hid (Calls Tryz.prog 177 #[.agg #[.string d.topic, .int .i64 d.index, .int .i64 d.time, .string d.key, .string d.body], .pointer (some ⟨g1, 0, none⟩), .pointer (some ⟨g2, 0, none⟩)] wr.drew fun e w' => e = .returned (.bool (ofTI t ix d)) ∧ Ext wr.drew w') := hU (CC.out wr.drew (by exact Nat.lt_of_lt_of_le hg1 hes) (by exact Nat.lt_of_lt_of_le hg2 hes) J1 J2)
  clear hc hd hdl J1 J2 CC
  have TN := hU (fun h => take_none Hi.out Hdl.out h)
  go_wp2_with fail
  refine K.out.mono ?_
  rintro e w2 ⟨rfl, h1⟩
  have he2 := he.next h1
  clear he h1 K K2 c0 c1 c2 c3 c4
  cases p1 : ofTI t ix d
  · have E := hU (TN.out p1)
    go_wp2_with fail
    go_roundw
    case rel => exact ⟨k + 1, by omega, by go_num, E.out, he2⟩
    case measure => simp [intOf]; omega
  · have E := hU (show fin = (k : Int) by rw [F.out]; exact idxB_at Hdl.out p1 Hi.out)
    go_wp2_with fail
    go_ret
    exact ⟨ret_int E.out.symm, he2⟩
theorem leafOf_any (A : Option Addr) (c : Nat) (l : List EntryD) (t : ByteArray) (ix : Int) (w : World) (hr : ReadsL w w.heap.size EntryD.cells 5 A l) (hl : l.length ≤ 1048576) :
 Calls Tryz.prog 110 #[.agg #[.slice A l.length c], .string t, .int .i64 ix] w fun e w' => e = .returned (.int .i64 (idxB (ofTI t ix) l)) ∧ Ext w w' := by
 have hmf : ∀ (fn : Fn) (first cap : Array Value) (w : World), (Instr.makeFunc fn first cap).run Tryz.prog w = .ok (.func fn first cap) w := fun _ _ _ _ => rfl
 have K0 := Blk.new w 51 #[.slice A l.length c]
 have E1 := Ext.new (Below.refl w.heap.size w) (.cells #[.slice A l.length c] 51)
 obtain ⟨w1, hw1⟩ : ∃ w1, w1 = w.alloc (.cells #[.slice A l.length c] 51) := ⟨_, rfl⟩
 have hs1 : w1.heap.size = w.heap.size + 1 := by rw [hw1]; simp
 rw [← hw1] at K0 E1
 have K1 := Blk.new w1 9 #[.string t]
 have E2 := E1.new (.cells #[.string t] 9)
 have K01 := K0.alloc (.cells #[.string t] 9)
 obtain ⟨w2, hw2⟩ : ∃ w2, w2 = w1.alloc (.cells #[.string t] 9) := ⟨_, rfl⟩
 have hs2 : w2.heap.size = w1.heap.size + 1 := by rw [hw2]; simp
 rw [← hw2] at K1 E2 K01
 have K2 := Blk.new w2 3 #[.int .i64 ix]
 have E3 := E2.new (.cells #[.int .i64 ix] 3)
 have K012 := K01.alloc (.cells #[.int .i64 ix] 3)
 have K12 := K1.alloc (.cells #[.int .i64 ix] 3)
 obtain ⟨r0, m0⟩ := K012.rules
 rw [hs1] at K12
 have g1 := K12.lt
 have g2 := K2.lt
 have s1 : (w2.alloc (.cells #[.int .i64 ix] 3)).cell? ⟨w.heap.size + 1, 0, none⟩ = some (.string t) := K12.cell 0
 rw [hs2, hs1] at K2 g2
 have s2 : (w2.alloc (.cells #[.int .i64 ix] 3)).cell? ⟨w.heap.size + 1 + 1, 0, none⟩ = some (.int .i64 ix) := K2.cell 0
 have C := hU (indexEntry_any A c l t ix (w.heap.size + 1) (w.heap.size + 1 + 1) _ (hr.ext E3) hl g1 g2 s1 s2)
 have E3 := hU E3
 subst hw2
 subst hw1
 clear K0 E1 E2 K01 K1 K2 K012 K12 g1 g2 s1 s2 hs1 hs2
 go_enter Tryz.func110, Tryz.ntmps110
 go_wp2_with fail
 refine C.out.mono ?_
 rintro e w4 ⟨rfl, h4⟩
 go_wp2_with fail
 go_ret
 exact ⟨rfl, E3.out.next h4⟩
theorem last_any (g : Nat) (A : Option Addr) (c : Nat) (l : List HeadD) (w : World) (hc3 : w.cell? ⟨g, 3, none⟩ = some (.slice A l.length c)) (hg : g < w.heap.size) (hr : ReadsL w w.heap.size HeadD.cells 5 A l) (h0 : 0 < l.length) (hl : l.length ≤ 1048576) :
 Calls Tryz.prog 147 #[.pointer (some ⟨g, 0, none⟩)] w fun e w' => e = .returned (.agg #[.int .i64 (lastH l).number, .int .i64 (lastH l).size, .string (lastH l).root, .int .i64 (lastH l).taken, .string (lastH l).takenRoot]) ∧ Ext w w' := by
 obtain ⟨h, hh⟩ : ∃ h, h = lastH l := ⟨_, rfl⟩
 have hl1 := last_at h0
 rw [← hh] at hl1
 rw [← hh]
 obtain ⟨b, off, rfl, hb, hc⟩ := Reads.at_ hr (k := l.length - 1) (by omega)
 obtain ⟨k, hk⟩ : ∃ k, k = l.length - 1 := ⟨_, rfl⟩
 obtain ⟨L, hL⟩ : ∃ L, L = l.length := ⟨_, rfl⟩
 have c0 := hc 0 _ (flat_at _ 5 HeadD.cells_length l _ 0 h hl1 (by omega))
 have c1 := hc 1 _ (flat_at _ 5 HeadD.cells_length l _ 1 h hl1 (by omega))
 have c2 := hc 2 _ (flat_at _ 5 HeadD.cells_length l _ 2 h hl1 (by omega))
 have c3 := hc 3 _ (flat_at _ 5 HeadD.cells_length l _ 3 h hl1 (by omega))
 have c4 := hc 4 _ (flat_at _ 5 HeadD.cells_length l _ 4 h hl1 (by omega))
 rw [Nat.add_zero] at c0
 rw [← hk] at c0 c1 c2 c3 c4
 rw [← hL] at hc3 h0 hl hk
 have e1 : (L : Int) - 1 = (k : Int) := by omega
 have e2 : IntKind.i64.wrap (k : Int) = (k : Int) := IntWalk.i64_in _ (by omega)
 have hkL : k < L := by omega
 clear hc hl1 hk hL hr hh h0
 have K0 := Blk.new w 55 #[.int .i64 0, .int .i64 0, .string ⟨#[]⟩, .int .i64 0, .string ⟨#[]⟩]
 have E1 := Ext.new (Below.refl w.heap.size w) (.cells #[.int .i64 0, .int .i64 0, .string ⟨#[]⟩, .int .i64 0, .string ⟨#[]⟩] 55)
 obtain ⟨q, hq⟩ : ∃ q, q = w.heap.size := ⟨_, rfl⟩
 have x3 := (E1.cell (p := ⟨g, 3, none⟩) hg).trans hc3
 have x0 := (E1.cell (p := ⟨b, off + k * 5, none⟩) hb).trans c0
 have x1 := (E1.cell (p := ⟨b, off + k * 5 + 1, none⟩) hb).trans c1
 have x2 := (E1.cell (p := ⟨b, off + k * 5 + 2, none⟩) hb).trans c2
 have x4 := (E1.cell (p := ⟨b, off + k * 5 + 3, none⟩) hb).trans c3
 have x5 := (E1.cell (p := ⟨b, off + k * 5 + 4, none⟩) hb).trans c4
 have Hq := hU hq
 clear hq hc3 c0 c1 c2 c3 c4
 go_enter Tryz.func147, Tryz.ntmps147
 go_wp2_with fail
 rw [← Hq.out]
 have T := hU (show Blk (w.alloc (.cells #[.int .i64 0, .int .i64 0, .string ⟨#[]⟩, .int .i64 0, .string ⟨#[]⟩] 55)) q 55 #[.int .i64 0, .int .i64 0, .string ⟨#[]⟩, .int .i64 0, .string ⟨#[]⟩] by rw [Hq.out]; exact K0)
 clear K0
 generalize w.alloc (.cells #[.int .i64 0, .int .i64 0, .string ⟨#[]⟩, .int .i64 0, .string ⟨#[]⟩] 55) = w1 at *
 go_still_tail 12, (by kernel_rfl)
 change wpList _ _ _ _ _ w1.drew
 generalize hd : w1.drew = w2
 have T2 : Hid (Blk w2 q 55 #[.int .i64 0, .int .i64 0, .string ⟨#[]⟩, .int .i64 0, .string ⟨#[]⟩]) := hU (by rw [← hd]; exact T.out)
 have E2 : Ext w w2 := by rw [← hd]; exact E1.drew
 have hqw : w.heap.size ≤ q := by have := Hq.out; omega
 clear hd E1 T x3 x0 x1 x2 x4 x5
 have B2 := hU (T2.out.put 0 [.int .i64 h.number, .int .i64 h.size, .string h.root, .int .i64 h.taken, .string h.takenRoot] #[.int .i64 h.number, .int .i64 h.size, .string h.root, .int .i64 h.taken, .string h.takenRoot] (by simp) rfl)
 have E3 := hU (ext_setCells (W := w) (g := q) hqw [.int .i64 h.number, .int .i64 h.size, .string h.root, .int .i64 h.taken, .string h.takenRoot] 0 _ E2)
 obtain ⟨zc, zf⟩ := T2.out.rules
 go_wp2_with fail
 exact ret_row rfl rfl B2.out Tryz.underlying55 rfl (by kernel_rfl) rfl ⟨rfl, E3.out⟩
end Go.Proofs.YtlgdghpnfclgpaaGreat

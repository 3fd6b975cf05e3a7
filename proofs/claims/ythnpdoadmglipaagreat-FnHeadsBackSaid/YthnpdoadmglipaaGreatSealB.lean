/-
  LeafAt; Recs2; WriteB; LeafI; TakeB; SealW; SealB: No condition.
-/
import Derived.Test.YthnpdoadmglipaaGreatReopenR
import Derived.Test.YthnpdoadmglipaaGreatRecs
import Derived.Test.YthnpdoadmglipaaGreatHeadRead
import Derived.Test.YthnpdoadmglipaaGreatMapRec
import Derived.Test.YthnpdoadmglipaaGreatFrm
import Derived.Test.YthnpdoadmglipaaGreatSealP
import Derived.Test.YthnpdoadmglipaaGreatFollowsB
namespace Go.Proofs.YthnpdoadmglipaaGreat
set_option maxHeartbeats 2000000
set_option maxRecDepth 100000
set_option linter.unusedSimpArgs false
open Go.RowKit
set_option linter.unusedVariables false
theorem take_none {α : Type} {p : α → Bool} {l : List α} {k : Nat} {d : α} (h : ∀ x ∈ l.take k, p x = false) (hd : l[k]? = some d) (hp : p d = false) : ∀ x ∈ l.take (k + 1), p x = false := by
 obtain ⟨hk, rfl⟩ := List.getElem?_eq_some_iff.1 hd
 intro x hx
 rw [List.take_succ_eq_append_getElem hk, List.mem_append] at hx
 rcases hx with hx | hx
 · exact h x hx
 · obtain rfl := List.mem_singleton.1 hx
   exact hp
theorem l09Leaf_any {B : Nat} (A : Option Addr) (c : Nat) (l : List EntryD) (t : ByteArray) (ix : Int) (w : World) (hr : ReadsL w B EntryD.cells 5 A l) (hl : l.length ≤ 1048576) :
 Calls Tryz.prog 97 #[.slice A l.length c, .string t, .int .i64 ix] w fun e w' => e = .returned (.int .i64 (idxB (ofTI t ix) l)) ∧ w = w' := by
 have HR := hU hr
 obtain ⟨fin, hfin⟩ : ∃ fin, fin = idxB (ofTI t ix) l := ⟨_, rfl⟩
 rw [← hfin]
 have F := hU hfin
 clear hfin hr
 go_enter Tryz.func97, Tryz.ntmps97
 go_wp2_with fail
 go_loopw [7] (fun i wr => ∃ k : Nat, k ≤ l.length ∧ i = .int .i64 k ∧ (∀ x ∈ l.take k, ofTI t ix x = false) ∧ w = wr) (fun i _ => l.length - (intOf i).toNat)
 case atStart => exact ⟨0, Nat.zero_le _, rfl, by simp, rfl⟩
 case round =>
  obtain ⟨k, hk, rfl, hi, rfl⟩ := hrel
  have Hi := hU hi
  clear hi
  by_cases hlt : k < l.length
  case neg =>
   have E := hU (show fin = -1 by rw [F.out]; exact idxB_none (by have := Hi.out; rwa [show k = l.length by omega, List.take_length] at this))
   go_wp2_with fail
   go_ret
   exact ⟨ret_int E.out.symm, rfl⟩
  obtain ⟨b, off, rfl, hb, hc⟩ := Reads.at_ HR.out (k := k) hlt
  obtain ⟨d, hd⟩ : ∃ d, d = l[k] := ⟨_, rfl⟩
  have hdl : l[k]? = some d := by rw [hd]; exact List.getElem?_eq_getElem hlt
  obtain ⟨c0, c1, c2, c3, c4⟩ := entry_at hc hdl
  have Hdl := hU hdl
  have P := hU (show ofTI t ix d = ((d.topic.toList == t.toList) && (d.index == ix)) from rfl)
  clear hc hd hdl
  cases p1 : (d.topic.toList == t.toList)
  · have E := hU (take_none Hi.out Hdl.out (by rw [P.out, p1]; rfl))
    clear P
    go_wp2_with fail
    go_roundw
    case rel => exact ⟨k + 1, by omega, by go_num, E.out, trivial⟩
    case measure => simp [intOf]; omega
  by_cases p2 : d.index = ix
  · have E := hU (show fin = (k : Int) by rw [F.out]; exact idxB_at Hdl.out (by rw [P.out, p1, beq_iff_eq.2 p2]; rfl) Hi.out)
    clear P
    go_wp2_with fail
    go_ret
    exact ⟨ret_int E.out.symm, rfl⟩
  · have E := hU (take_none Hi.out Hdl.out (by rw [P.out, p1, beq_false_of_ne p2]; rfl))
    clear P
    go_wp2_with fail
    go_roundw
    case rel => exact ⟨k + 1, by omega, by go_num, E.out, trivial⟩
    case measure => simp [intOf]; omega
theorem l12At_any (A : Option Addr) (c : Nat) (l : List ReceiptD) (r : ReceiptD) (w : World) (hr : ReadsL w w.heap.size ReceiptD.cells 3 A l) (hl : l.length ≤ 1048576) :
 Calls Tryz.prog 98 #[.slice A l.length c, .agg #[.string r.reader, .string r.topic, .int .i64 r.index]] w fun e w' => e = .returned (.int .i64 (idxB (fun x => x.eqb r) l)) ∧ Ext w w' := by
 have HR := hU hr
 have K0 := hU (Blk.new w 92 #[.string r.reader, .string r.topic, .int .i64 r.index])
 have He := hU (Ext.new (Below.refl w.heap.size w) (.cells #[.string r.reader, .string r.topic, .int .i64 r.index] 92))
 obtain ⟨fin, hfin⟩ : ∃ fin, fin = idxB (fun x : ReceiptD => x.eqb r) l := ⟨_, rfl⟩
 rw [← hfin]
 have F := hU hfin
 clear hfin hr
 go_enter Tryz.func98, Tryz.ntmps98
 go_wp2_with fail
 obtain ⟨g, hg⟩ : ∃ g, g = w.heap.size := ⟨_, rfl⟩
 rw [← hg] at K0
 rw [← hg]
 clear hg
 go_loopw [5] (fun i wr => ∃ k : Nat, k ≤ l.length ∧ i = .int .i64 k ∧ (∀ x ∈ l.take k, x.eqb r = false) ∧ Blk wr g 92 #[.string r.reader, .string r.topic, .int .i64 r.index] ∧ Ext w wr) (fun i _ => l.length - (intOf i).toNat)
 case atStart => exact ⟨0, Nat.zero_le _, rfl, by simp, K0.out, He.out⟩
 case round =>
  clear K0 He
  obtain ⟨k, hk, rfl, hi, k0, he⟩ := hrel
  have Hi := hU hi
  obtain ⟨r0, m0⟩ := k0.rules
  have K0 := hU k0
  clear hi k0
  by_cases hlt : k < l.length
  case neg =>
   have E := hU (show fin = -1 by rw [F.out]; exact idxB_none (by have := Hi.out; rwa [show k = l.length by omega, List.take_length] at this))
   go_wp2_with fail
   go_ret
   exact ⟨ret_int E.out.symm, he⟩
  obtain ⟨b, off, rfl, hb, hc⟩ := Reads.at_ (HR.out.ext he) (k := k) hlt
  obtain ⟨d, hd⟩ : ∃ d, d = l[k] := ⟨_, rfl⟩
  have hdl : l[k]? = some d := by rw [hd]; exact List.getElem?_eq_getElem hlt
  obtain ⟨c0, c1, c2⟩ := rec_at hc hdl
  have Hdl := hU hdl
  have HQ := ReceiptD.run_eql d r
  clear hc hd hdl
  cases p1 : d.eqb r
  · have E := hU (take_none (p := fun x : ReceiptD => x.eqb r) Hi.out Hdl.out p1)
    go_wp2_with fail
    go_quiet (fail)
    go_wp2_with fail
    go_roundw
    case rel => exact ⟨k + 1, by omega, by go_num, E.out, K0.out.drewN _, he.drewN _⟩
    case measure => simp [intOf]; omega
  · have E := hU (show fin = (k : Int) by rw [F.out]; exact idxB_at Hdl.out p1 Hi.out)
    go_wp2_with fail
    go_quiet (fail)
    go_wp2_with fail
    go_ret
    exact ⟨ret_int E.out.symm, he.drewN _⟩
theorem headText_le (n : Int) (h : HeadD) : (headText n h).size ≤ 1000 := by
 cases k : headOk n h
 · rw [headText, k]; exact Nat.zero_le _
 · have := (headText_fits k).2; omega

theorem row_put {K G T e s n : Nat} {w : World} {v : Value} {xs : List Value} {cs : Array Value} (h : w.ownsRow K e s v n xs) (hb : Blk w G T cs) (ht : T ≠ e) (vs : List Value) (o : Nat) : (w.setCells G o vs).ownsRow K e s v n xs :=
 (Frm.setCells (Frm.refl (fun b => b = G) w) (g := G) (fun _ => rfl) vs o).own h (fun y hy => own_ne h hb ht y hy)
def TkEnd (b : BrokerD) (r : ReceiptD) (K g : Nat) (ve vh v1 v2 : Value) (w : World) (e : Ending) (w' : World) : Prop :=
 ∃ vw, e = .returned (.tuple #[vw, .int .i64 (tkCode b r : Int)]) ∧ ((tkCode b r ≠ 0 ∧ Ext w w') ∨
  (tkCode b r = 0 ∧ ∃ vr, Blk w' g 37 (brkCs (tkB b r) ve vr vh v1 v2).toArray ∧ BRows K w' (tkB b r) ve vr vh v1 v2 ∧ w'.ownsRow K 79 3 vw 1 (writeW b 2 (receiptText r)).cells ∧ Below K w w'))
theorem TkEnd.no {b : BrokerD} {r : ReceiptD} {K g : Nat} {ve vh v1 v2 vw : Value} {w w' : World} {e : Ending} {k : Nat} (h : tkCode b r = k) (h0 : k ≠ 0) (he : e = .returned (.tuple #[vw, .int .i64 (k : Int)])) (hx : Ext w w') : TkEnd b r K g ve vh v1 v2 w e w' :=
 ⟨vw, by rw [h]; exact he, .inl ⟨by omega, hx⟩⟩
theorem slf_from {α : Type} {f : α → List Value} {size : Nat} {w : World} {A : Option Addr} {l : List α} {c : Nat} (hf : ∀ a, (f a).length = size) (h : SlF AnyB f size w A l c) (n : Nat) (hn : n ≤ l.length) : SlF AnyB f size w (partA A c n size) (l.drop n) (c - n) :=
 ⟨by rw [List.length_drop]; have := h.le; omega, by have := h.cap; omega, by have := reads_part hf h.reads (c := c) (n := n) (m := l.length) hn (Nat.le_refl _) h.le; rwa [List.take_of_length_le (by rw [List.length_drop]; omega)] at this, fun _ _ _ => trivial⟩
def SlEnd (b : BrokerD) (K g : Nat) (ve vr : Value) (w : World) (e : Ending) (w' : World) : Prop :=
 ∃ vw, e = .returned (.tuple #[vw, .int .i64 (slCode b : Int)]) ∧ ((slCode b ≠ 0 ∧ Ext w w') ∨
  (slCode b = 0 ∧ ∃ vh v1 v2, Blk w' g 37 (brkCs (slB b) ve vr vh v1 v2).toArray ∧ BRows K w' (slB b) ve vr vh v1 v2 ∧ (∀ x, v1.ownBlock = some x → v2.ownBlock ≠ some x) ∧ w'.ownsRow K 79 3 vw 1 (writeW b 1 (headText b.width (slHead b))).cells ∧ Below K w w'))
theorem SlEnd.no {b : BrokerD} {K g : Nat} {ve vr vw : Value} {w w' : World} {e : Ending} {k : Nat} (h : slCode b = k) (h0 : k ≠ 0) (he : e = .returned (.tuple #[vw, .int .i64 (k : Int)])) (hx : Ext w w') : SlEnd b K g ve vr w e w' :=
 ⟨vw, by rw [h]; exact he, .inl ⟨by omega, hx⟩⟩
theorem slMid_sz {b : BrokerD} {n1 n2 : Nat} (sf : SlF_ b n1 n2) (h : BSz b) : BSz (slMid b) := by
 have k1 := pc_le (slL b).length; have k2 := pc_le (slT b).length
 have e1 : (slL b).length = b.log.entries.length := by rw [slL, leavesH, List.length_map]
 have e2 : (slT b).length = b.receipts.length := by rw [slT, takenH, List.length_map]
 have := sf.le; have := sf.lr
 refine ⟨h.e, h.r, h.h, ?_, ?_⟩
 · show (peaksOf (ndB b.width) (slL b)).reverse.length ≤ 1048576
   rw [List.length_reverse, peaks_len]; omega
 · show (peaksOf (ndB b.width) (slT b)).reverse.length ≤ 1048576
   rw [List.length_reverse, peaks_len]; omega
end Go.Proofs.YthnpdoadmglipaaGreat

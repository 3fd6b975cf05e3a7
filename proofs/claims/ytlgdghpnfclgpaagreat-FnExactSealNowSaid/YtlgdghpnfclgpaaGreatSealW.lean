/-
  LeafI; TakeB; SealW: No condition.
-/
import Derived.Test.YtlgdghpnfclgpaaGreatWriteB
import Derived.Test.YtlgdghpnfclgpaaGreatFramesLaw
import Derived.Test.YtlgdghpnfclgpaaGreatHeadTx
namespace Go.Proofs.YtlgdghpnfclgpaaGreat
set_option maxHeartbeats 2000000
set_option maxRecDepth 100000
set_option linter.unusedSimpArgs false
open Go.RowKit
set_option linter.unusedVariables false
theorem leafClosure_any (d : EntryD) (t : ByteArray) (ix : Int) (g1 g2 : Nat) (w : World) (hg1 : g1 < w.heap.size) (hg2 : g2 < w.heap.size) (h1 : w.cell? ⟨g1, 0, none⟩ = some (.string t)) (h2 : w.cell? ⟨g2, 0, none⟩ = some (.int .i64 ix)) :
 Calls Tryz.prog 177 #[.agg #[.string d.topic, .int .i64 d.index, .int .i64 d.time, .string d.key, .string d.body], .pointer (some ⟨g1, 0, none⟩), .pointer (some ⟨g2, 0, none⟩)] w fun e w' => e = .returned (.bool (ofTI t ix d)) ∧ Ext w w' := by
 obtain ⟨r0, m0⟩ := (Blk.new w 46 #[.string d.topic, .int .i64 d.index, .int .i64 d.time, .string d.key, .string d.body]).rules
 have He := hU (Ext.new (Below.refl w.heap.size w) (.cells #[.string d.topic, .int .i64 d.index, .int .i64 d.time, .string d.key, .string d.body] 46))
 have k1 := (He.out.cell (p := ⟨g1, 0, none⟩) hg1).trans h1
 have k2 := (He.out.cell (p := ⟨g2, 0, none⟩) hg2).trans h2
 obtain ⟨fin, hfin⟩ : ∃ fin, fin = ofTI t ix d := ⟨_, rfl⟩
 rw [← hfin]
 cases p1 : (d.topic.toList == t.toList)
 · have E := hU (show fin = false by rw [hfin, ofTI, p1]; rfl)
   clear hfin
   go_enter Tryz.func177, Tryz.ntmps177
   go_wp2_with fail
   go_ret
   exact ⟨ret_bool E.out.symm, He.out⟩
 · have E := hU (show fin = (d.index == ix) by rw [hfin, ofTI, p1]; rfl)
   clear hfin
   go_enter Tryz.func177, Tryz.ntmps177
   go_wp2_with fail
   go_ret
   exact ⟨ret_bool E.out.symm, He.out⟩
theorem indexEntry_any (A : Option Addr) (c : Nat) (l : List EntryD) (t : ByteArray) (ix : Int) (g1 g2 : Nat) (w : World) (hr : ReadsL w w.heap.size EntryD.cells 5 A l) (hl : l.length ≤ 1048576) (hg1 : g1 < w.heap.size) (hg2 : g2 < w.heap.size) (h1 : w.cell? ⟨g1, 0, none⟩ = some (.string t)) (h2 : w.cell? ⟨g2, 0, none⟩ = some (.int .i64 ix)) :
 Calls Tryz.prog 176 #[.slice A l.length c, .func (.func 177) #[] #[.pointer (some ⟨g1, 0, none⟩), .pointer (some ⟨g2, 0, none⟩)]] w fun e w' => e = .returned (.int .i64 (idxB (ofTI t ix) l)) ∧ Ext w w' := by
 have HR := hU hr
 have H1 := hU h1; have H2 := hU h2
 obtain ⟨fin, hfin⟩ : ∃ fin, fin = idxB (ofTI t ix) l := ⟨_, rfl⟩
 rw [← hfin]
 have F := hU hfin
 clear hfin hr h1 h2
 go_enter Tryz.func176, Tryz.ntmps176
 go_wp2_with fail
 go_loopw [8] (fun i wr => ∃ k : Nat, k ≤ l.length ∧ i = .int .i64 k ∧ (∀ x ∈ l.take k, ofTI t ix x = false) ∧ Ext w wr) (fun i _ => l.length - (intOf i).toNat)
 case atStart => exact ⟨0, Nat.zero_le _, rfl, by simp, Below.refl w.heap.size w⟩
 case round =>
  obtain ⟨k, hk, rfl, hi, he⟩ := hrel
  have Hi := hU hi
  clear hi
  by_cases hlt : k < l.length
  case neg =>
   have E := hU (show fin = -1 by rw [F.out]; exact idxB_none (by have := Hi.out; rwa [show k = l.length by omega, List.take_length] at this))
   go_wp2_with fail
   go_ret
   exact ⟨ret_int E.out.symm, he⟩
  obtain ⟨b, off, rfl, hb, hc⟩ := Reads.at_ (HR.out.ext he) (k := k) hlt
  obtain ⟨d, hd⟩ : ∃ d, d = l[k] := ⟨_, rfl⟩
  have hdl : l[k]? = some d := by rw [hd]; exact List.getElem?_eq_getElem hlt
  obtain ⟨c0, c1, c2, c3, c4⟩ := entry_at hc hdl
  have Hdl := hU hdl
  have CC := hU (fun W => leafClosure_any d t ix g1 g2 W)
  have hes := he.size
  have J1 : wr.cell? ⟨g1, 0, none⟩ = some (.string t) := (he.cell (p := ⟨g1, 0, none⟩) hg1).trans H1.out
  have J2 : wr.cell? ⟨g2, 0, none⟩ = some (.int .i64 ix) := (he.cell (p := ⟨g2, 0, none⟩) hg2).trans H2.out
  have K := hU (CC.out wr (by omega) (by omega) J1 J2)
  have K2 : Hid (Calls Tryz.prog 177 #[.agg #[.string d.topic, .int .i64 d.index, .int .i64 d.time, .string d.key, .string d.body], .pointer (some ⟨g1, 0, none⟩), .pointer (some ⟨g2, 0, none⟩)] wr.drew fun e w' => e = .returned (.bool (ofTI t ix d)) ∧ Ext wr.drew w') := hU (CC.out wr.drew (by exact Nat.lt_of_lt_of_le hg1 hes) (by exact Nat.lt_of_lt_of_le hg2 hes) J1 J2)
  clear hc hd hdl J1 J2 CC
  have TN := hU (fun h => take_none Hi.out Hdl.out h)
  go_wp2_with fail
  refine K.out.mono ?_
  rintro e w2 ⟨rfl, h1⟩
  have he2 := he.next h1
  clear he h1 K K2 c0 c1 c2 c3 c4
  cases p1 : ofTI t ix d
  · have E := hU (TN.out p1)
    go_wp2_with fail
    go_roundw
    case rel => exact ⟨k + 1, by omega, by go_num, E.out, he2⟩
    case measure => simp [intOf]; omega
  · have E := hU (show fin = (k : Int) by rw [F.out]; exact idxB_at Hdl.out p1 Hi.out)
    go_wp2_with fail
    go_ret
    exact ⟨ret_int E.out.symm, he2⟩
theorem leafOf_any (A : Option Addr) (c : Nat) (l : List EntryD) (t : ByteArray) (ix : Int) (w : World) (hr : ReadsL w w.heap.size EntryD.cells 5 A l) (hl : l.length ≤ 1048576) :
 Calls Tryz.prog 110 #[.agg #[.slice A l.length c], .string t, .int .i64 ix] w fun e w' => e = .returned (.int .i64 (idxB (ofTI t ix) l)) ∧ Ext w w' := by
 have hmf : ∀ (fn : Fn) (first cap : Array Value) (w : World), (Instr.makeFunc fn first cap).run Tryz.prog w = .ok (.func fn first cap) w := fun _ _ _ _ => rfl
 have K0 := Blk.new w 51 #[.slice A l.length c]
 have E1 := Ext.new (Below.refl w.heap.size w) (.cells #[.slice A l.length c] 51)
 obtain ⟨w1, hw1⟩ : ∃ w1, w1 = w.alloc (.cells #[.slice A l.length c] 51) := ⟨_, rfl⟩
 have hs1 : w1.heap.size = w.heap.size + 1 := by rw [hw1]; simp
 rw [← hw1] at K0 E1
 have K1 := Blk.new w1 9 #[.string t]
 have E2 := E1.new (.cells #[.string t] 9)
 have K01 := K0.alloc (.cells #[.string t] 9)
 obtain ⟨w2, hw2⟩ : ∃ w2, w2 = w1.alloc (.cells #[.string t] 9) := ⟨_, rfl⟩
 have hs2 : w2.heap.size = w1.heap.size + 1 := by rw [hw2]; simp
 rw [← hw2] at K1 E2 K01
 have K2 := Blk.new w2 3 #[.int .i64 ix]
 have E3 := E2.new (.cells #[.int .i64 ix] 3)
 have K012 := K01.alloc (.cells #[.int .i64 ix] 3)
 have K12 := K1.alloc (.cells #[.int .i64 ix] 3)
 obtain ⟨r0, m0⟩ := K012.rules
 rw [hs1] at K12
 have g1 := K12.lt
 have g2 := K2.lt
 have s1 : (w2.alloc (.cells #[.int .i64 ix] 3)).cell? ⟨w.heap.size + 1, 0, none⟩ = some (.string t) := K12.cell 0
 rw [hs2, hs1] at K2 g2
 have s2 : (w2.alloc (.cells #[.int .i64 ix] 3)).cell? ⟨w.heap.size + 1 + 1, 0, none⟩ = some (.int .i64 ix) := K2.cell 0
 have C := hU (indexEntry_any A c l t ix (w.heap.size + 1) (w.heap.size + 1 + 1) _ (hr.ext E3) hl g1 g2 s1 s2)
 have E3 := hU E3
 subst hw2
 subst hw1
 clear K0 E1 E2 K01 K1 K2 K012 K12 g1 g2 s1 s2 hs1 hs2
 go_enter Tryz.func110, Tryz.ntmps110
 go_wp2_with fail
 refine C.out.mono ?_
 rintro e w4 ⟨rfl, h4⟩
 go_wp2_with fail
 go_ret
 exact ⟨rfl, E3.out.next h4⟩
theorem last_any (g : Nat) (A : Option Addr) (c : Nat) (l : List HeadD) (w : World) (hc3 : w.cell? ⟨g, 3, none⟩ = some (.slice A l.length c)) (hg : g < w.heap.size) (hr : ReadsL w w.heap.size HeadD.cells 5 A l) (h0 : 0 < l.length) (hl : l.length ≤ 1048576) :
 Calls Tryz.prog 147 #[.pointer (some ⟨g, 0, none⟩)] w fun e w' => e = .returned (.agg #[.int .i64 (lastH l).number, .int .i64 (lastH l).size, .string (lastH l).root, .int .i64 (lastH l).taken, .string (lastH l).takenRoot]) ∧ Ext w w' := by
 obtain ⟨h, hh⟩ : ∃ h, h = lastH l := ⟨_, rfl⟩
 have hl1 := last_at h0
 rw [← hh] at hl1
 rw [← hh]
 obtain ⟨b, off, rfl, hb, hc⟩ := Reads.at_ hr (k := l.length - 1) (by omega)
 obtain ⟨k, hk⟩ : ∃ k, k = l.length - 1 := ⟨_, rfl⟩
 obtain ⟨L, hL⟩ : ∃ L, L = l.length := ⟨_, rfl⟩
 have c0 := hc 0 _ (flat_at _ 5 HeadD.cells_length l _ 0 h hl1 (by omega))
 have c1 := hc 1 _ (flat_at _ 5 HeadD.cells_length l _ 1 h hl1 (by omega))
 have c2 := hc 2 _ (flat_at _ 5 HeadD.cells_length l _ 2 h hl1 (by omega))
 have c3 := hc 3 _ (flat_at _ 5 HeadD.cells_length l _ 3 h hl1 (by omega))
 have c4 := hc 4 _ (flat_at _ 5 HeadD.cells_length l _ 4 h hl1 (by omega))
 rw [Nat.add_zero] at c0
 rw [← hk] at c0 c1 c2 c3 c4
 rw [← hL] at hc3 h0 hl hk
 have e1 : (L : Int) - 1 = (k : Int) := by omega
 have e2 : IntKind.i64.wrap (k : Int) = (k : Int) := IntWalk.i64_in _ (by omega)
 have hkL : k < L := by omega
 clear hc hl1 hk hL hr hh h0
 have K0 := Blk.new w 55 #[.int .i64 0, .int .i64 0, .string ⟨#[]⟩, .int .i64 0, .string ⟨#[]⟩]
 have E1 := Ext.new (Below.refl w.heap.size w) (.cells #[.int .i64 0, .int .i64 0, .string ⟨#[]⟩, .int .i64 0, .string ⟨#[]⟩] 55)
 obtain ⟨q, hq⟩ : ∃ q, q = w.heap.size := ⟨_, rfl⟩
 have x3 := (E1.cell (p := ⟨g, 3, none⟩) hg).trans hc3
 have x0 := (E1.cell (p := ⟨b, off + k * 5, none⟩) hb).trans c0
 have x1 := (E1.cell (p := ⟨b, off + k * 5 + 1, none⟩) hb).trans c1
 have x2 := (E1.cell (p := ⟨b, off + k * 5 + 2, none⟩) hb).trans c2
 have x4 := (E1.cell (p := ⟨b, off + k * 5 + 3, none⟩) hb).trans c3
 have x5 := (E1.cell (p := ⟨b, off + k * 5 + 4, none⟩) hb).trans c4
 have Hq := hU hq
 clear hq hc3 c0 c1 c2 c3 c4
 go_enter Tryz.func147, Tryz.ntmps147
 go_wp2_with fail
 rw [← Hq.out]
 have T := hU (show Blk (w.alloc (.cells #[.int .i64 0, .int .i64 0, .string ⟨#[]⟩, .int .i64 0, .string ⟨#[]⟩] 55)) q 55 #[.int .i64 0, .int .i64 0, .string ⟨#[]⟩, .int .i64 0, .string ⟨#[]⟩] by rw [Hq.out]; exact K0)
 clear K0
 generalize w.alloc (.cells #[.int .i64 0, .int .i64 0, .string ⟨#[]⟩, .int .i64 0, .string ⟨#[]⟩] 55) = w1 at *
 go_still_tail 12, (by kernel_rfl)
 change wpList _ _ _ _ _ w1.drew
 generalize hd : w1.drew = w2
 have T2 : Hid (Blk w2 q 55 #[.int .i64 0, .int .i64 0, .string ⟨#[]⟩, .int .i64 0, .string ⟨#[]⟩]) := hU (by rw [← hd]; exact T.out)
 have E2 : Ext w w2 := by rw [← hd]; exact E1.drew
 have hqw : w.heap.size ≤ q := by have := Hq.out; omega
 clear hd E1 T x3 x0 x1 x2 x4 x5
 have B2 := hU (T2.out.put 0 [.int .i64 h.number, .int .i64 h.size, .string h.root, .int .i64 h.taken, .string h.takenRoot] #[.int .i64 h.number, .int .i64 h.size, .string h.root, .int .i64 h.taken, .string h.takenRoot] (by simp) rfl)
 have E3 := hU (ext_setCells (W := w) (g := q) hqw [.int .i64 h.number, .int .i64 h.size, .string h.root, .int .i64 h.taken, .string h.takenRoot] 0 _ E2)
 obtain ⟨zc, zf⟩ := T2.out.rules
 go_wp2_with fail
 exact ret_row rfl rfl B2.out Tryz.underlying55 rfl (by kernel_rfl) rfl ⟨rfl, E3.out⟩
theorem below_of {X : Nat → Prop} {K : Nat} {w w1 w2 : World} (hx : Ext w w1) (hf : Frm X w1 w2) (hX : ∀ b, X b → K ≤ b) (hK : K ≤ w.heap.size) : Below K w w2 :=
 ⟨hf.os.trans hx.os, hf.tape.trans hx.tape, hf.output.trans hx.output, Nat.le_trans hx.size hf.size, fun k hk => (hf.block k (by have := hx.size; omega) (fun h => by have := hX k h; omega)).trans (hx.block k (by omega))⟩
theorem row_put {K G T e s n : Nat} {w : World} {v : Value} {xs : List Value} {cs : Array Value} (h : w.ownsRow K e s v n xs) (hb : Blk w G T cs) (ht : T ≠ e) (vs : List Value) (o : Nat) : (w.setCells G o vs).ownsRow K e s v n xs :=
 (Frm.setCells (Frm.refl (fun b => b = G) w) (g := G) (fun _ => rfl) vs o).own h (fun y hy => own_ne h hb ht y hy)
def TkEnd (b : BrokerD) (r : ReceiptD) (K g : Nat) (ve vh v1 v2 : Value) (w : World) (e : Ending) (w' : World) : Prop :=
 ∃ vw, e = .returned (.tuple #[vw, .int .i64 (tkCode b r : Int)]) ∧ ((tkCode b r ≠ 0 ∧ Ext w w') ∨
  (tkCode b r = 0 ∧ ∃ vr, Blk w' g 59 (brkCs (tkB b r) ve vr vh v1 v2).toArray ∧ BRows K w' (tkB b r) ve vr vh v1 v2 ∧ w'.ownsRow K 112 3 vw 1 (writeW b 2 (receiptText r)).cells ∧ Below K w w'))
theorem TkEnd.no {b : BrokerD} {r : ReceiptD} {K g : Nat} {ve vh v1 v2 vw : Value} {w w' : World} {e : Ending} {k : Nat} (h : tkCode b r = k) (h0 : k ≠ 0) (he : e = .returned (.tuple #[vw, .int .i64 (k : Int)])) (hx : Ext w w') : TkEnd b r K g ve vh v1 v2 w e w' :=
 ⟨vw, by rw [h]; exact he, .inl ⟨by omega, hx⟩⟩
set_option maxHeartbeats 4000000
theorem slf_from {α : Type} {f : α → List Value} {size : Nat} {w : World} {A : Option Addr} {l : List α} {c : Nat} (hf : ∀ a, (f a).length = size) (h : SlF AnyB f size w A l c) (n : Nat) (hn : n ≤ l.length) : SlF AnyB f size w (partA A c n size) (l.drop n) (c - n) :=
 ⟨by rw [List.length_drop]; have := h.le; omega, by have := h.cap; omega, by have := reads_part hf h.reads (c := c) (n := n) (m := l.length) hn (Nat.le_refl _) h.le; rwa [List.take_of_length_le (by rw [List.length_drop]; omega)] at this, fun _ _ _ => trivial⟩
theorem waiting_any (b : BrokerD) (g : Nat) (A0 : Option Addr) (a0 : Nat) (A1 : Option Addr) (a1 : Nat) (A2 : Option Addr) (a2 : Nat) (A3 : Option Addr) (a3 : Nat) (A4 : Option Addr) (a4 : Nat) (w : World) (hb : Blk w g 59 #[.int .i64 b.width, .slice A0 b.log.entries.length a0, .slice A1 b.receipts.length a1, .slice A2 b.heads.length a2, .int .i64 b.sealed.leaves.size, .slice A3 b.sealed.leaves.peaks.length a3, .int .i64 b.sealed.taken.size, .slice A4 b.sealed.taken.peaks.length a4, .int .i64 b.sealed.head.number, .int .i64 b.sealed.head.size, .string b.sealed.head.root, .int .i64 b.sealed.head.taken, .string b.sealed.head.takenRoot]) (s : BArg AnyB w b A0 a0 A1 a1 A2 a2 A3 a3 A4 a4) (hn : BSz b) (h0 : 0 < b.heads.length) (hs : 0 ≤ (lastH b.heads).size ∧ (lastH b.heads).size ≤ 512) (ht : 0 ≤ (lastH b.heads).taken ∧ (lastH b.heads).taken ≤ 512) :
 Calls Tryz.prog 163 #[.pointer (some ⟨g, 0, none⟩)] w fun e w' => e = .returned (.tuple #[.int .i64 ((b.log.entries.length : Int) - (lastH b.heads).size), .int .i64 ((b.receipts.length : Int) - (lastH b.heads).taken)]) ∧ Ext w w' := by
 obtain ⟨lh, hlh⟩ : ∃ lh, lh = lastH b.heads := ⟨_, rfl⟩
 rw [← hlh] at hs ht
 rw [← hlh]
 have HLH := hU hlh
 have S0 := hU s; have HN := hU hn
 have l1 := hn.e; have l2 := hn.r
 have F1 : ∀ W : World, (Instr.field 55 (.agg #[.int .i64 lh.number, .int .i64 lh.size, .string lh.root, .int .i64 lh.taken, .string lh.takenRoot]) 1).run Tryz.prog W = .ok (.int .i64 lh.size) W := fun _ => by kernel_rfl
 have F3 : ∀ W : World, (Instr.field 55 (.agg #[.int .i64 lh.number, .int .i64 lh.size, .string lh.root, .int .i64 lh.taken, .string lh.takenRoot]) 3).run Tryz.prog W = .ok (.int .i64 lh.taken) W := fun _ => by kernel_rfl
 have w1 : IntKind.i64.wrap ((b.log.entries.length : Int) - lh.size) = (b.log.entries.length : Int) - lh.size := IntWalk.i64_in _ (by omega)
 have w2 : IntKind.i64.wrap ((b.receipts.length : Int) - lh.taken) = (b.receipts.length : Int) - lh.taken := IntWalk.i64_in _ (by omega)
 clear s hn hlh
 go_enter Tryz.func163, Tryz.ntmps163
 go_upto_region 1 with fail
 refine wp_region_held_drew (S := fun w' => Blk w' g 59 #[.int .i64 b.width, .slice A0 b.log.entries.length a0, .slice A1 b.receipts.length a1, .slice A2 b.heads.length a2, .int .i64 b.sealed.leaves.size, .slice A3 b.sealed.leaves.peaks.length a3, .int .i64 b.sealed.taken.size, .slice A4 b.sealed.taken.peaks.length a4, .int .i64 b.sealed.head.number, .int .i64 b.sealed.head.size, .string b.sealed.head.root, .int .i64 b.sealed.head.taken, .string b.sealed.head.takenRoot] ∧ Ext w w') (by kernel_rfl) ⟨hb.drew, (Below.refl _ _).drew⟩ (fun hH => ?_)
 clear hb
 refine takeQ 0 (.pointer (some ⟨g, 0, none⟩)) (some 4) rfl rfl (by kernel_rfl) (Or.inl ⟨by rfl, ?ywa1⟩) hH ?rwa1
 case ywa1 => intro w' hS'; go_simp; try with_reducible rfl
 try simp only [zA]
 refine takeQ 1 (.pointer (some ⟨g, 0, none⟩)) (some 5) rfl rfl (by kernel_rfl) (Or.inl ⟨by rfl, ?ywa2⟩) hH ?rwa2
 case ywa2 => intro w' hS'; go_simp; try with_reducible rfl
 try simp only [zA]
 refine takeQ 2 (.pointer (some ⟨g, 1, none⟩)) (some 6) rfl rfl (by kernel_rfl) (Or.inl ⟨by rfl, ?ywa3⟩) hH ?rwa3
 case ywa3 => intro w' hS'; go_simp; try with_reducible rfl
 try simp only [zA]
 refine takeQ 3 (.pointer (some ⟨g, 1, none⟩)) (some 7) rfl rfl (by kernel_rfl) (Or.inl ⟨by rfl, ?ywa4⟩) hH ?rwa4
 case ywa4 => intro w' hS'; go_simp; try with_reducible rfl
 try simp only [zA]
 refine takeQ 4 (.slice A0 b.log.entries.length a0) (some 8) rfl rfl (by kernel_rfl) (Or.inl ⟨by rfl, ?ywa5⟩) hH ?rwa5
 case ywa5 => intro w' hS'; obtain ⟨s0, s1⟩ := hS'; obtain ⟨r0, f0⟩ := s0.rules; go_simp; try with_reducible rfl
 try simp only [zA]
 refine takeQ 5 (.int .i64 (b.log.entries.length : Int)) (some 9) rfl rfl (by kernel_rfl) (Or.inl ⟨by rfl, ?ywa6⟩) hH ?rwa6
 case ywa6 => intro w' hS'; obtain ⟨s0, s1⟩ := hS'; obtain ⟨r0, f0⟩ := s0.rules; go_simp; try with_reducible rfl
 try simp only [zA]
 refine takeQ 6 (.pointer (some ⟨g, 0, none⟩)) (some 10) rfl rfl (by kernel_rfl) (Or.inl ⟨by rfl, ?ywa7⟩) hH ?rwa7
 case ywa7 => intro w' hS'; go_simp; try with_reducible rfl
 try simp only [zA]
 refine takeQ 10 (.pointer (some ⟨g, 0, none⟩)) (some 14) rfl rfl (by kernel_rfl) (Or.inl ⟨by rfl, ?ywa8⟩) hH ?rwa8
 case ywa8 => intro w' hS'; go_simp; try with_reducible rfl
 try simp only [zA]
 refine takeQ 11 (.pointer (some ⟨g, 0, none⟩)) (some 15) rfl rfl (by kernel_rfl) (Or.inl ⟨by rfl, ?ywa9⟩) hH ?rwa9
 case ywa9 => intro w' hS'; go_simp; try with_reducible rfl
 try simp only [zA]
 refine takeQ 12 (.pointer (some ⟨g, 2, none⟩)) (some 16) rfl rfl (by kernel_rfl) (Or.inl ⟨by rfl, ?ywa10⟩) hH ?rwa10
 case ywa10 => intro w' hS'; go_simp; try with_reducible rfl
 try simp only [zA]
 refine takeQ 13 (.slice A1 b.receipts.length a1) (some 17) rfl rfl (by kernel_rfl) (Or.inl ⟨by rfl, ?ywa11⟩) hH ?rwa11
 case ywa11 => intro w' hS'; obtain ⟨s0, s1⟩ := hS'; obtain ⟨r0, f0⟩ := s0.rules; go_simp; try with_reducible rfl
 try simp only [zA]
 refine takeQ 14 (.int .i64 (b.receipts.length : Int)) (some 18) rfl rfl (by kernel_rfl) (Or.inl ⟨by rfl, ?ywa12⟩) hH ?rwa12
 case ywa12 => intro w' hS'; obtain ⟨s0, s1⟩ := hS'; obtain ⟨r0, f0⟩ := s0.rules; go_simp; try with_reducible rfl
 try simp only [zA]
 refine takeQ 15 (.pointer (some ⟨g, 0, none⟩)) (some 19) rfl rfl (by kernel_rfl) (Or.inl ⟨by rfl, ?ywa13⟩) hH ?rwa13
 case ywa13 => intro w' hS'; go_simp; try with_reducible rfl
 try simp only [zA]
 refine oneH 7 (oi := _) (some 11) (by kernel_rfl) rfl rfl rfl (fun K' hK => ?_)
 refine ⟨?_⟩
 rw [if_pos (by rfl)]
 go_simp
 refine (last_any g A2 a2 b.heads _ (hH.1.cell 3) hH.1.lt (S0.out.ext hH.2).h.reads h0 HN.out.h).mono ?_
 rintro e w3 ⟨rfl, h1⟩
 rw [← HLH.out]
 refine hK.out _ _ ⟨_, rfl⟩ (⟨hH.1.ext h1, hH.2.next h1⟩) (fun hH2 => ?_)
 clear hK K' hH h1
 have hH := hH2
 clear hH2
 try simp only [zB]
 refine takeQ 8 (.int .i64 lh.size) (some 12) rfl rfl (by kernel_rfl) (Or.inl ⟨by rfl, ?ywa14⟩) hH ?rwa14
 case ywa14 => intro w' hS'; obtain ⟨s0, s1⟩ := hS'; obtain ⟨r0, f0⟩ := s0.rules; go_simp; try with_reducible rfl
 try simp only [zA]
 refine takeQ 9 (.int .i64 ((b.log.entries.length : Int) - lh.size)) (some 13) rfl rfl (by kernel_rfl) (Or.inl ⟨by rfl, ?ywa15⟩) hH ?rwa15
 case ywa15 => intro w' hS'; obtain ⟨s0, s1⟩ := hS'; obtain ⟨r0, f0⟩ := s0.rules; go_simp; try with_reducible rfl
 try simp only [zA]
 refine oneH 16 (oi := _) (some 20) (by kernel_rfl) rfl rfl rfl (fun K' hK => ?_)
 refine ⟨?_⟩
 rw [if_pos (by rfl)]
 go_simp
 refine (last_any g A2 a2 b.heads _ (hH.1.cell 3) hH.1.lt (S0.out.ext hH.2).h.reads h0 HN.out.h).mono ?_
 rintro e w4 ⟨rfl, h1⟩
 rw [← HLH.out]
 refine hK.out _ _ ⟨_, rfl⟩ (⟨hH.1.ext h1, hH.2.next h1⟩) (fun hH2 => ?_)
 clear hK K' hH h1
 have hH := hH2
 clear hH2
 try simp only [zB]
 refine takeQ 17 (.int .i64 lh.taken) (some 21) rfl rfl (by kernel_rfl) (Or.inl ⟨by rfl, ?ywa16⟩) hH ?rwa16
 case ywa16 => intro w' hS'; obtain ⟨s0, s1⟩ := hS'; obtain ⟨r0, f0⟩ := s0.rules; go_simp; try with_reducible rfl
 try simp only [zA]
 refine takeQ 18 (.int .i64 ((b.receipts.length : Int) - lh.taken)) (some 22) rfl rfl (by kernel_rfl) (Or.inl ⟨by rfl, ?ywa17⟩) hH ?rwa17
 case ywa17 => intro w' hS'; obtain ⟨s0, s1⟩ := hS'; obtain ⟨r0, f0⟩ := s0.rules; go_simp; try with_reducible rfl
 try simp only [zA]
 refine takeQ 19 (.int .i64 ((b.log.entries.length : Int) - lh.size)) (some 2) rfl rfl (by kernel_rfl) (Or.inl ⟨by rfl, ?ywa18⟩) hH ?rwa18
 case ywa18 => intro w' hS'; obtain ⟨s0, s1⟩ := hS'; obtain ⟨r0, f0⟩ := s0.rules; go_simp; try with_reducible rfl
 try simp only [zA]
 refine takeQ 20 (.int .i64 ((b.receipts.length : Int) - lh.taken)) (some 3) rfl rfl (by kernel_rfl) (Or.inl ⟨by rfl, ?ywa19⟩) hH ?rwa19
 case ywa19 => intro w' hS'; obtain ⟨s0, s1⟩ := hS'; obtain ⟨r0, f0⟩ := s0.rules; go_simp; try with_reducible rfl
 try simp only [zA]
 have he := hH.2
 clear hH
 refine wpAnyH_done (by kernel_rfl) ?_ _
 go_wp2_with fail
 go_ret2
 exact ⟨rfl, he⟩
end Go.Proofs.YtlgdghpnfclgpaaGreat

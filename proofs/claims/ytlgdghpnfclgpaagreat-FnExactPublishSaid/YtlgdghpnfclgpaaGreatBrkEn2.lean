/-
  BrkEn2: No condition.
-/
import Derived.Test.YtlgdghpnfclgpaaGreatReopenR
import Derived.Test.YtlgdghpnfclgpaaGreatMarkRowB
namespace Go.Proofs.YtlgdghpnfclgpaaGreat
set_option maxHeartbeats 4000000
set_option maxRecDepth 100000
set_option linter.unusedSimpArgs false
open Go.RowKit
set_option linter.unusedVariables false
def FMk {α : Type} (f : α → List Value) (size : Nat) (mk : Nat → Nat → List α) (w : World) (v : Value) (k m : Nat) : Prop := ∃ A c, v = .slice A m c ∧ SlF (InBlock v) f size w A (mk k m) c
section
variable {α : Type} {f : α → List Value} {size : Nat} {mk : Nat → Nat → List α}
theorem FMk.ext {w w' : World} {v : Value} {k m : Nat} (h : FMk f size mk w v k m) (he : Ext w w') : FMk f size mk w' v k m := by obtain ⟨A, c, h1, h2⟩ := h; exact ⟨A, c, h1, h2.ext he⟩
theorem FMk.frm {w w' : World} {v : Value} {k m : Nat} {X : Nat → Prop} (h : FMk f size mk w v k m) (he : Frm X w w') (hX : ∀ b, v.ownBlock = some b → ¬ X b) : FMk f size mk w' v k m := by
 obtain ⟨A, c, h1, h2⟩ := h; exact ⟨A, c, h1, h2.keep (he.keep (fun b _ hb => hX b hb))⟩
end
theorem heldFM_Entry {w : World} {V : Option Addr} {c m k : Nat} (h : FMk EntryD.cells 5 EntryD.mkL w (.slice V m c) k m) (hl : m ≤ 1048576) (hk : k ≤ 1099511627) :
 Calls Tryz.prog 148 #[.slice V m c, .int .i64 (k : Int)] w fun e w' => e = .returned (.int .i64 ((k + m * 5 : Nat) : Int)) ∧ Ext w w' := by
 obtain ⟨A, c', e, s⟩ := h
 cases e
 exact heldEntryS_any V m c k w s.reads hl hk
theorem heldFM_Receipt {w : World} {V : Option Addr} {c m k : Nat} (h : FMk ReceiptD.cells 3 ReceiptD.mkL w (.slice V m c) k m) (hl : m ≤ 1048576) (hk : k ≤ 1099511627) :
 Calls Tryz.prog 85 #[.slice V m c, .int .i64 (k : Int)] w fun e w' => e = .returned (.int .i64 ((k + m * 3 : Nat) : Int)) ∧ Ext w w' := by
 obtain ⟨A, c', e, s⟩ := h
 cases e
 exact heldReceiptS_any V m c k w s.reads hl hk
theorem heldFM_Head {w : World} {V : Option Addr} {c m k : Nat} (h : FMk HeadD.cells 5 HeadD.mkL w (.slice V m c) k m) (hl : m ≤ 1048576) (hk : k ≤ 1099511627) :
 Calls Tryz.prog 86 #[.slice V m c, .int .i64 (k : Int)] w fun e w' => e = .returned (.int .i64 ((k + m * 5 : Nat) : Int)) ∧ Ext w w' := by
 obtain ⟨A, c', e, s⟩ := h
 cases e
 exact heldHeadS_any V m c k w s.reads hl hk
theorem markLog_row {K m k : Nat} {v : Value} {a : List EntryD} (w : World) (ho : w.ownsRow K 46 5 v m (a.flatMap EntryD.cells)) (hl : m ≤ 1048576) (hk : k ≤ 100000000) :
 Calls Tryz.prog 57 #[.agg #[v], .int .i64 (k : Int)] w fun e w' => e = .returned (.int .i64 ((k + m * 5 : Nat) : Int)) ∧ FMk EntryD.cells 5 EntryD.mkL w' v k m ∧ Frm (InBlock v) w w' := by
 obtain ⟨V, c, rfl, _⟩ := ownsRow_form ho
 have He := hU (Ext.new (Below.refl w.heap.size w) (.cells #[.slice V m c] 51))
 have HO := hU ho; clear ho
 go_enter Tryz.func57, Tryz.ntmps57
 go_wp2_with fail
 refine (markEntryS_row (k := k) (ownsRow_ext HO.out He.out) (by omega) (by omega)).mono ?_
 rintro e w1 ⟨rfl, m1, f1⟩
 have M1 := hU m1
 have F1 := hU ((Frm.of_ext (X := InBlock (.slice V m c)) He.out).next f1 (fun b _ h => h))
 clear m1 f1
 go_wp2_with fail
 go_ret
 exact ⟨rfl, M1.out, F1.out⟩
theorem heldLog_row {m k : Nat} {V : Option Addr} {c : Nat} (w : World) (hm : FMk EntryD.cells 5 EntryD.mkL w (.slice V m c) k m) (hl : m ≤ 1048576) (hk : k ≤ 100000000) :
 Calls Tryz.prog 84 #[.agg #[.slice V m c], .int .i64 (k : Int)] w fun e w' => e = .returned (.int .i64 ((k + m * 5 : Nat) : Int)) ∧ Ext w w' := by
 have HM := hU hm; clear hm
 have He := hU (Ext.new (Below.refl w.heap.size w) (.cells #[.slice V m c] 51))
 have q0 : (0 : Int) ≤ ((k + m * 5 : Nat) : Int) := by omega
 go_enter Tryz.func84, Tryz.ntmps84
 go_wp2_with fail
 refine (heldFM_Entry (HM.out.ext He.out) (by omega) (by omega)).mono ?_
 rintro e w1 ⟨rfl, h1⟩
 have he := He.out.next h1
 go_wp2_with fail
 go_ret
 exact ⟨rfl, he⟩
theorem markRange_row {K m k : Nat} {v : Value} {a : List Value} (n : Int) (w : World) (ho : w.ownsRow K 9 1 v m a) (hl : m ≤ 1048576) (hk : k ≤ 100000000) :
 Calls Tryz.prog 117 #[.agg #[.int .i64 n, v], .int .i64 (k : Int)] w fun e w' => e = .returned (.int .i64 ((k + m : Nat) : Int)) ∧ SMk w' v k m ∧ Frm (InBlock v) w w' := by
 obtain ⟨V, c, rfl, _⟩ := ownsRow_form ho
 have He := hU (Ext.new (Below.refl w.heap.size w) (.cells #[.int .i64 n, .slice V m c] 54))
 have HO := hU ho; clear ho
 go_enter Tryz.func117, Tryz.ntmps117
 go_wp2_with fail
 refine (markStringS_row (k := k) (ownsRow_ext HO.out He.out) (by omega) (by omega)).mono ?_
 rintro e w1 ⟨rfl, m1, f1⟩
 have M1 := hU m1
 have F1 := hU ((Frm.of_ext (X := InBlock (.slice V m c)) He.out).next f1 (fun b _ h => h))
 clear m1 f1
 go_wp2_with fail
 go_ret
 exact ⟨rfl, M1.out, F1.out⟩
theorem heldRange_row {m k : Nat} {V : Option Addr} {c : Nat} (n : Int) (w : World) (hm : SMk w (.slice V m c) k m) (hl : m ≤ 1048576) (hk : k ≤ 100000000) :
 Calls Tryz.prog 149 #[.agg #[.int .i64 n, .slice V m c], .int .i64 (k : Int)] w fun e w' => e = .returned (.int .i64 ((k + m : Nat) : Int)) ∧ Ext w w' := by
 have HM := hU hm; clear hm
 have He := hU (Ext.new (Below.refl w.heap.size w) (.cells #[.int .i64 n, .slice V m c] 54))
 have q0 : (0 : Int) ≤ ((k + m : Nat) : Int) := by omega
 go_enter Tryz.func149, Tryz.ntmps149
 go_wp2_with fail
 refine (heldStringS_row (HM.out.ext He.out) (by omega) (by omega)).mono ?_
 rintro e w1 ⟨rfl, h1⟩
 have he := He.out.next h1
 go_wp2_with fail
 go_ret
 exact ⟨rfl, he⟩
theorem markSeal_row {K1 K2 m1 m2 k : Nat} {v1 v2 : Value} {a1 a2 : List Value} (n1 n2 : Int) (h : HeadD) (w : World) (ho1 : w.ownsRow K1 9 1 v1 m1 a1) (ho2 : w.ownsRow K2 9 1 v2 m2 a2) (hap : ∀ x, v1.ownBlock = some x → v2.ownBlock ≠ some x) (hl1 : m1 ≤ 1048576) (hl2 : m2 ≤ 1048576) (hk : k ≤ 90000000) :
 Calls Tryz.prog 60 #[.agg #[.int .i64 n1, v1, .int .i64 n2, v2, .int .i64 h.number, .int .i64 h.size, .string h.root, .int .i64 h.taken, .string h.takenRoot], .int .i64 (k : Int)] w fun e w' => e = .returned (.int .i64 ((k + m1 + m2 : Nat) : Int)) ∧ SMk w' v1 k m1 ∧ SMk w' v2 (k + m1) m2 ∧ Frm (fun b => InBlock v1 b ∨ InBlock v2 b) w w' := by
 obtain ⟨V1, c1, rfl, _⟩ := ownsRow_form ho1
 obtain ⟨V2, c2, rfl, _⟩ := ownsRow_form ho2
 have K0 := Blk.new w 57 #[.int .i64 n1, .slice V1 m1 c1, .int .i64 n2, .slice V2 m2 c2, .int .i64 h.number, .int .i64 h.size, .string h.root, .int .i64 h.taken, .string h.takenRoot]
 have He := hU (Ext.new (Below.refl w.heap.size w) (.cells #[.int .i64 n1, .slice V1 m1 c1, .int .i64 n2, .slice V2 m2 c2, .int .i64 h.number, .int .i64 h.size, .string h.root, .int .i64 h.taken, .string h.takenRoot] 57))
 have H1 := hU ho1; have H2 := hU ho2; have AP := hU hap
 clear ho1 ho2 hap
 obtain ⟨r0, f0⟩ := K0.rules
 go_enter Tryz.func60, Tryz.ntmps60
 go_wp2_with fail
 refine (markRange_row (k := k) n1 _ (ownsRow_ext H1.out He.out) (by omega) (by omega)).mono ?_
 rintro e w1 ⟨rfl, mm, f1⟩
 have k0 := f1.blk K0 (fun e => by have := (H1.out.lt _ e).2; omega)
 have o2 := hU (f1.own (ownsRow_ext H2.out He.out) (fun b hb e => AP.out b e hb))
 have M1 := hU mm
 have F1 := hU ((Frm.of_ext (X := InBlock (.slice V1 m1 c1)) He.out).next f1 (fun b _ h => h))
 clear mm f1 r0 f0 K0
 obtain ⟨r0, f0⟩ := k0.rules
 go_wp2_with fail
 refine (markRange_row (k := k + m1) n2 _ o2.out (by omega) (by omega)).mono ?_
 rintro e w2 ⟨rfl, mm, f2⟩
 have M2 := hU mm
 have M1' := hU (M1.out.frm f2 (fun b hb e => AP.out b hb e))
 have F2 := hU ((F1.out.mono (Y := fun b => InBlock (.slice V1 m1 c1) b ∨ InBlock (.slice V2 m2 c2) b) (fun b _ h => .inl h)).next f2 (fun b _ h => .inr h))
 clear mm f2 r0 f0 k0
 go_wp2_with fail
 go_ret
 exact ⟨rfl, M1'.out, M2.out, F2.out⟩
theorem heldSeal_row {m1 m2 k : Nat} {V1 V2 : Option Addr} {c1 c2 : Nat} (n1 n2 : Int) (h : HeadD) (w : World) (hm1 : SMk w (.slice V1 m1 c1) k m1) (hm2 : SMk w (.slice V2 m2 c2) (k + m1) m2) (hl1 : m1 ≤ 1048576) (hl2 : m2 ≤ 1048576) (hk : k ≤ 90000000) :
 Calls Tryz.prog 87 #[.agg #[.int .i64 n1, .slice V1 m1 c1, .int .i64 n2, .slice V2 m2 c2, .int .i64 h.number, .int .i64 h.size, .string h.root, .int .i64 h.taken, .string h.takenRoot], .int .i64 (k : Int)] w fun e w' => e = .returned (.int .i64 ((k + m1 + m2 : Nat) : Int)) ∧ Ext w w' := by
 have K0 := Blk.new w 57 #[.int .i64 n1, .slice V1 m1 c1, .int .i64 n2, .slice V2 m2 c2, .int .i64 h.number, .int .i64 h.size, .string h.root, .int .i64 h.taken, .string h.takenRoot]
 have He := hU (Ext.new (Below.refl w.heap.size w) (.cells #[.int .i64 n1, .slice V1 m1 c1, .int .i64 n2, .slice V2 m2 c2, .int .i64 h.number, .int .i64 h.size, .string h.root, .int .i64 h.taken, .string h.takenRoot] 57))
 have H1 := hU hm1; have H2 := hU hm2
 clear hm1 hm2
 have q0 : (0 : Int) ≤ ((k + m1 : Nat) : Int) := by omega
 have q1 : (0 : Int) ≤ ((k + m1 + m2 : Nat) : Int) := by omega
 obtain ⟨r0, f0⟩ := K0.rules
 go_enter Tryz.func87, Tryz.ntmps87
 go_wp2_with fail
 refine (heldRange_row n1 _ (H1.out.ext He.out) (by omega) (by omega)).mono ?_
 rintro e w1 ⟨rfl, h1⟩
 have he := He.out.next h1; have k0 := K0.ext h1
 clear h1 r0 f0 K0
 obtain ⟨r0, f0⟩ := k0.rules
 go_wp2_with fail
 refine (heldRange_row (k := k + m1) n2 _ (H2.out.ext he) (by omega) (by omega)).mono ?_
 rintro e w2 ⟨rfl, h1⟩
 replace he := he.next h1
 clear h1 r0 f0 k0
 go_wp2_with fail
 go_ret
 exact ⟨rfl, he⟩
def BrkN (b : BrokerD) : Nat := b.log.entries.length * 5 + b.receipts.length * 3 + b.heads.length * 5 + b.sealed.leaves.peaks.length + b.sealed.taken.peaks.length
structure BMk (w : World) (b : BrokerD) (ve vr vh v1 v2 : Value) (k : Nat) : Prop where
 e : FMk EntryD.cells 5 EntryD.mkL w ve k b.log.entries.length
 r : FMk ReceiptD.cells 3 ReceiptD.mkL w vr (k + b.log.entries.length * 5) b.receipts.length
 h : FMk HeadD.cells 5 HeadD.mkL w vh (k + b.log.entries.length * 5 + b.receipts.length * 3) b.heads.length
 p : SMk w v1 (k + b.log.entries.length * 5 + b.receipts.length * 3 + b.heads.length * 5) b.sealed.leaves.peaks.length
 q : SMk w v2 (k + b.log.entries.length * 5 + b.receipts.length * 3 + b.heads.length * 5 + b.sealed.leaves.peaks.length) b.sealed.taken.peaks.length
theorem BMk.ext {w w' : World} {b : BrokerD} {ve vr vh v1 v2 : Value} {k : Nat} (h : BMk w b ve vr vh v1 v2 k) (he : Ext w w') : BMk w' b ve vr vh v1 v2 k := ⟨h.e.ext he, h.r.ext he, h.h.ext he, h.p.ext he, h.q.ext he⟩
def BBlk (ve vr vh v1 v2 : Value) (x : Nat) : Prop := InBlock ve x ∨ InBlock vr x ∨ InBlock vh x ∨ InBlock v1 x ∨ InBlock v2 x
theorem BMk.frm {w w' : World} {b : BrokerD} {ve vr vh v1 v2 : Value} {k : Nat} {X : Nat → Prop} (h : BMk w b ve vr vh v1 v2 k) (he : Frm X w w') (hX : ∀ x, BBlk ve vr vh v1 v2 x → ¬ X x) : BMk w' b ve vr vh v1 v2 k :=
 ⟨h.e.frm he (fun x hx => hX x (.inl hx)), h.r.frm he (fun x hx => hX x (.inr (.inl hx))), h.h.frm he (fun x hx => hX x (.inr (.inr (.inl hx)))), h.p.frm he (fun x hx => hX x (.inr (.inr (.inr (.inl hx))))), h.q.frm he (fun x hx => hX x (.inr (.inr (.inr (.inr hx)))))⟩
structure BLen (b : BrokerD) : Prop where
 e : b.log.entries.length ≤ 1048576
 r : b.receipts.length ≤ 1048576
 h : b.heads.length ≤ 1048576
 p : b.sealed.leaves.peaks.length ≤ 1048576
 q : b.sealed.taken.peaks.length ≤ 1048576
theorem markBroker_row {K k : Nat} {b : BrokerD} {ve vr vh v1 v2 : Value} (w : World) (hB : BRows K w b ve vr vh v1 v2) (hap : ∀ x, v1.ownBlock = some x → v2.ownBlock ≠ some x) (hl : BLen b) (hk : k ≤ 10000000) :
 Calls Tryz.prog 21 #[.agg (brkCs b ve vr vh v1 v2).toArray, .int .i64 (k : Int)] w fun e w' => e = .returned (.int .i64 ((k + BrkN b : Nat) : Int)) ∧ BMk w' b ve vr vh v1 v2 k ∧ Frm (BBlk ve vr vh v1 v2) w w' := by
 obtain ⟨le, lr, lh, lp, lq⟩ := hl
 obtain ⟨he, hr, hh, hp, hq⟩ := hB
 have a1 := own_apart he hr (by decide); have a2 := own_apart he hh (by decide); have a3 := own_apart he hp (by decide); have a4 := own_apart he hq (by decide)
 have a5 := own_apart hr hh (by decide); have a6 := own_apart hr hp (by decide); have a7 := own_apart hr hq (by decide)
 have a8 := own_apart hh hp (by decide); have a9 := own_apart hh hq (by decide)
 obtain ⟨E0, e0, rfl, _⟩ := ownsRow_form he
 obtain ⟨E1, e1, rfl, _⟩ := ownsRow_form hr
 obtain ⟨E2, e2, rfl, _⟩ := ownsRow_form hh
 obtain ⟨E3, e3, rfl, _⟩ := ownsRow_form hp
 obtain ⟨E4, e4, rfl, _⟩ := ownsRow_form hq
 have K0 := Blk.new w 59 #[.int .i64 b.width, .slice E0 b.log.entries.length e0, .slice E1 b.receipts.length e1, .slice E2 b.heads.length e2, .int .i64 b.sealed.leaves.size, .slice E3 b.sealed.leaves.peaks.length e3, .int .i64 b.sealed.taken.size, .slice E4 b.sealed.taken.peaks.length e4, .int .i64 b.sealed.head.number, .int .i64 b.sealed.head.size, .string b.sealed.head.root, .int .i64 b.sealed.head.taken, .string b.sealed.head.takenRoot]
 have x0 := Ext.new (Below.refl w.heap.size w) (.cells #[.int .i64 b.width, .slice E0 b.log.entries.length e0, .slice E1 b.receipts.length e1, .slice E2 b.heads.length e2, .int .i64 b.sealed.leaves.size, .slice E3 b.sealed.leaves.peaks.length e3, .int .i64 b.sealed.taken.size, .slice E4 b.sealed.taken.peaks.length e4, .int .i64 b.sealed.head.number, .int .i64 b.sealed.head.size, .string b.sealed.head.root, .int .i64 b.sealed.head.taken, .string b.sealed.head.takenRoot] 59)
 have X0 := hU x0
 have LT := hU (show ∀ x, BBlk (.slice E0 b.log.entries.length e0) (.slice E1 b.receipts.length e1) (.slice E2 b.heads.length e2) (.slice E3 b.sealed.leaves.peaks.length e3) (.slice E4 b.sealed.taken.peaks.length e4) x → x < w.heap.size from fun x hx => by
  rcases hx with h | h | h | h | h
  · exact (he.lt x h).2
  · exact (hr.lt x h).2
  · exact (hh.lt x h).2
  · exact (hp.lt x h).2
  · exact (hq.lt x h).2)
 have OE := hU (ownsRow_ext he x0); have OR := hU (ownsRow_ext hr x0); have OH := hU (ownsRow_ext hh x0); have OP := hU (ownsRow_ext hp x0); have OQ := hU (ownsRow_ext hq x0)
 have A1 := hU a1; have A2 := hU a2; have A3 := hU a3; have A4 := hU a4; have A5 := hU a5; have A6 := hU a6; have A7 := hU a7; have A8 := hU a8; have A9 := hU a9; have AP := hU hap
 clear he hr hh hp hq a1 a2 a3 a4 a5 a6 a7 a8 a9 hap x0
 simp only [brkCs]
 obtain ⟨r0, f0⟩ := K0.rules
 go_enter Tryz.func21, Tryz.ntmps21
 go_wp2_with fail
 refine (markLog_row (k := k) _ OE.out (by omega) (by omega)).mono ?_
 rintro e w1 ⟨rfl, mm, f1⟩
 have k1 := f1.blk K0 (fun e => by have := LT.out _ (.inl e); omega)
 replace OR := hU (f1.own OR.out (fun x hx e => A1.out x e hx)); replace OH := hU (f1.own OH.out (fun x hx e => A2.out x e hx)); replace OP := hU (f1.own OP.out (fun x hx e => A3.out x e hx)); replace OQ := hU (f1.own OQ.out (fun x hx e => A4.out x e hx))
 have ME := hU mm
 have F := hU ((Frm.of_ext (X := BBlk (.slice E0 b.log.entries.length e0) (.slice E1 b.receipts.length e1) (.slice E2 b.heads.length e2) (.slice E3 b.sealed.leaves.peaks.length e3) (.slice E4 b.sealed.taken.peaks.length e4)) X0.out).next f1 (fun x _ h => .inl h))
 clear mm f1 r0 f0 K0 OE
 obtain ⟨r0, f0⟩ := k1.rules
 go_wp2_with fail
 refine (markReceiptS_row (k := k + b.log.entries.length * 5) OR.out (by omega) (by omega)).mono ?_
 rintro e w2 ⟨rfl, mm, f1⟩
 have k2 := f1.blk k1 (fun e => by have := LT.out _ (.inr (.inl e)); omega)
 replace OH := hU (f1.own OH.out (fun x hx e => A5.out x e hx)); replace OP := hU (f1.own OP.out (fun x hx e => A6.out x e hx)); replace OQ := hU (f1.own OQ.out (fun x hx e => A7.out x e hx))
 replace ME := hU (ME.out.frm f1 (fun x hx e => A1.out x hx e))
 have MR := hU (show FMk ReceiptD.cells 3 ReceiptD.mkL w2 _ _ _ from mm)
 replace F := hU (F.out.next f1 (fun x _ h => .inr (.inl h)))
 clear mm f1 r0 f0 k1 OR
 obtain ⟨r0, f0⟩ := k2.rules
 go_wp2_with fail
 refine (markHeadS_row (k := k + b.log.entries.length * 5 + b.receipts.length * 3) OH.out (by omega) (by omega)).mono ?_
 rintro e w3 ⟨rfl, mm, f1⟩
 have k3 := f1.blk k2 (fun e => by have := LT.out _ (.inr (.inr (.inl e))); omega)
 replace OP := hU (f1.own OP.out (fun x hx e => A8.out x e hx)); replace OQ := hU (f1.own OQ.out (fun x hx e => A9.out x e hx))
 replace ME := hU (ME.out.frm f1 (fun x hx e => A2.out x hx e)); replace MR := hU (MR.out.frm f1 (fun x hx e => A5.out x hx e))
 have MH := hU (show FMk HeadD.cells 5 HeadD.mkL w3 _ _ _ from mm)
 replace F := hU (F.out.next f1 (fun x _ h => .inr (.inr (.inl h))))
 clear mm f1 r0 f0 k2 OH
 obtain ⟨r0, f0⟩ := k3.rules
 have R0 : Hid (w3.rangeAt w.heap.size 4 [.int .i64 b.sealed.leaves.size, .slice E3 b.sealed.leaves.peaks.length e3, .int .i64 b.sealed.taken.size, .slice E4 b.sealed.taken.peaks.length e4, .int .i64 b.sealed.head.number, .int .i64 b.sealed.head.size, .string b.sealed.head.root, .int .i64 b.sealed.head.taken, .string b.sealed.head.takenRoot]) := hU (fun j v hv => by
  rw [k3.cell]
  have hj : j < 9 := by have := (List.getElem?_eq_some_iff.1 hv).1; simpa using this
  match j, hj, hv with
  | 0, _, hv => exact hv
  | 1, _, hv => exact hv
  | 2, _, hv => exact hv
  | 3, _, hv => exact hv
  | 4, _, hv => exact hv
  | 5, _, hv => exact hv
  | 6, _, hv => exact hv
  | 7, _, hv => exact hv
  | 8, _, hv => exact hv)
 go_wp2_with (refine wpList_load_mid rfl 57 _ rfl w.heap.size 4 rfl [.int .i64 b.sealed.leaves.size, .slice E3 b.sealed.leaves.peaks.length e3, .int .i64 b.sealed.taken.size, .slice E4 b.sealed.taken.peaks.length e4, .int .i64 b.sealed.head.number, .int .i64 b.sealed.head.size, .string b.sealed.head.root, .int .i64 b.sealed.head.taken, .string b.sealed.head.takenRoot] _ R0.out Tryz.underlying57 rfl (by kernel_rfl) ?_)
 refine (markSeal_row (k := k + b.log.entries.length * 5 + b.receipts.length * 3 + b.heads.length * 5) b.sealed.leaves.size b.sealed.taken.size b.sealed.head _ OP.out OQ.out AP.out (by omega) (by omega) (by omega)).mono ?_
 rintro e w4 ⟨rfl, mp, mq, f1⟩
 have M : Hid (BMk w4 b (.slice E0 b.log.entries.length e0) (.slice E1 b.receipts.length e1) (.slice E2 b.heads.length e2) (.slice E3 b.sealed.leaves.peaks.length e3) (.slice E4 b.sealed.taken.peaks.length e4) k) := hU
  ⟨ME.out.frm f1 (fun x hx e => e.elim (A3.out x hx) (A4.out x hx)), MR.out.frm f1 (fun x hx e => e.elim (A6.out x hx) (A7.out x hx)), MH.out.frm f1 (fun x hx e => e.elim (A8.out x hx) (A9.out x hx)), mp, mq⟩
 replace F := hU (F.out.next f1 (fun x _ h => .inr (.inr (.inr h))))
 have EN := hU (show ((k + b.log.entries.length * 5 + b.receipts.length * 3 + b.heads.length * 5 + b.sealed.leaves.peaks.length + b.sealed.taken.peaks.length : Nat) : Int) = ((k + BrkN b : Nat) : Int) by unfold BrkN; omega)
 clear mp mq f1 r0 f0 k3 R0
 obtain ⟨kk, hkk⟩ : ∃ kk, kk = k + b.log.entries.length * 5 + b.receipts.length * 3 + b.heads.length * 5 + b.sealed.leaves.peaks.length + b.sealed.taken.peaks.length := ⟨_, rfl⟩
 rw [← hkk] at EN
 rw [← hkk]
 clear hkk
 go_wp2_with fail
 go_ret
 exact ⟨by rw [EN.out]; rfl, M.out, F.out⟩
theorem heldBroker_row {k : Nat} {b : BrokerD} {E0 E1 E2 E3 E4 : Option Addr} {e0 e1 e2 e3 e4 : Nat} (w : World) (hM : BMk w b (.slice E0 b.log.entries.length e0) (.slice E1 b.receipts.length e1) (.slice E2 b.heads.length e2) (.slice E3 b.sealed.leaves.peaks.length e3) (.slice E4 b.sealed.taken.peaks.length e4) k) (hl : BLen b) (hk : k ≤ 10000000) :
 Calls Tryz.prog 29 #[.agg #[.int .i64 b.width, .slice E0 b.log.entries.length e0, .slice E1 b.receipts.length e1, .slice E2 b.heads.length e2, .int .i64 b.sealed.leaves.size, .slice E3 b.sealed.leaves.peaks.length e3, .int .i64 b.sealed.taken.size, .slice E4 b.sealed.taken.peaks.length e4, .int .i64 b.sealed.head.number, .int .i64 b.sealed.head.size, .string b.sealed.head.root, .int .i64 b.sealed.head.taken, .string b.sealed.head.takenRoot], .int .i64 (k : Int)] w fun e w' => e = .returned (.int .i64 ((k + BrkN b : Nat) : Int)) ∧ Ext w w' := by
 obtain ⟨le, lr, lh, lp, lq⟩ := hl
 have K0 := Blk.new w 59 #[.int .i64 b.width, .slice E0 b.log.entries.length e0, .slice E1 b.receipts.length e1, .slice E2 b.heads.length e2, .int .i64 b.sealed.leaves.size, .slice E3 b.sealed.leaves.peaks.length e3, .int .i64 b.sealed.taken.size, .slice E4 b.sealed.taken.peaks.length e4, .int .i64 b.sealed.head.number, .int .i64 b.sealed.head.size, .string b.sealed.head.root, .int .i64 b.sealed.head.taken, .string b.sealed.head.takenRoot]
 have X0 := hU (Ext.new (Below.refl w.heap.size w) (.cells #[.int .i64 b.width, .slice E0 b.log.entries.length e0, .slice E1 b.receipts.length e1, .slice E2 b.heads.length e2, .int .i64 b.sealed.leaves.size, .slice E3 b.sealed.leaves.peaks.length e3, .int .i64 b.sealed.taken.size, .slice E4 b.sealed.taken.peaks.length e4, .int .i64 b.sealed.head.number, .int .i64 b.sealed.head.size, .string b.sealed.head.root, .int .i64 b.sealed.head.taken, .string b.sealed.head.takenRoot] 59))
 have M := hU hM; clear hM
 have q1 : (0 : Int) ≤ ((k + b.log.entries.length * 5 : Nat) : Int) := by omega
 have q2 : (0 : Int) ≤ ((k + b.log.entries.length * 5 + b.receipts.length * 3 : Nat) : Int) := by omega
 have q3 : (0 : Int) ≤ ((k + b.log.entries.length * 5 + b.receipts.length * 3 + b.heads.length * 5 : Nat) : Int) := by omega
 have q4 : (0 : Int) ≤ ((k + b.log.entries.length * 5 + b.receipts.length * 3 + b.heads.length * 5 + b.sealed.leaves.peaks.length + b.sealed.taken.peaks.length : Nat) : Int) := by omega
 obtain ⟨r0, f0⟩ := K0.rules
 go_enter Tryz.func29, Tryz.ntmps29
 go_wp2_with fail
 refine (heldLog_row (k := k) _ (M.out.e.ext X0.out) (by omega) (by omega)).mono ?_
 rintro e w1 ⟨rfl, h1⟩
 have he := X0.out.next h1; have k0 := K0.ext h1
 clear h1 r0 f0 K0 X0
 obtain ⟨r0, f0⟩ := k0.rules
 go_wp2_with fail
 refine (heldFM_Receipt (M.out.r.ext he) (by omega) (by omega)).mono ?_
 rintro e w2 ⟨rfl, h1⟩
 replace he := he.next h1; replace k0 := k0.ext h1
 clear h1 r0 f0
 obtain ⟨r0, f0⟩ := k0.rules
 go_wp2_with fail
 refine (heldFM_Head (M.out.h.ext he) (by omega) (by omega)).mono ?_
 rintro e w3 ⟨rfl, h1⟩
 replace he := he.next h1; replace k0 := k0.ext h1
 clear h1 r0 f0
 obtain ⟨r0, f0⟩ := k0.rules
 have R0 : Hid (w3.rangeAt w.heap.size 4 [.int .i64 b.sealed.leaves.size, .slice E3 b.sealed.leaves.peaks.length e3, .int .i64 b.sealed.taken.size, .slice E4 b.sealed.taken.peaks.length e4, .int .i64 b.sealed.head.number, .int .i64 b.sealed.head.size, .string b.sealed.head.root, .int .i64 b.sealed.head.taken, .string b.sealed.head.takenRoot]) := hU (fun j v hv => by
  rw [k0.cell]
  have hj : j < 9 := by have := (List.getElem?_eq_some_iff.1 hv).1; simpa using this
  match j, hj, hv with
  | 0, _, hv => exact hv
  | 1, _, hv => exact hv
  | 2, _, hv => exact hv
  | 3, _, hv => exact hv
  | 4, _, hv => exact hv
  | 5, _, hv => exact hv
  | 6, _, hv => exact hv
  | 7, _, hv => exact hv
  | 8, _, hv => exact hv)
 go_wp2_with (refine wpList_load_mid rfl 57 _ rfl w.heap.size 4 rfl [.int .i64 b.sealed.leaves.size, .slice E3 b.sealed.leaves.peaks.length e3, .int .i64 b.sealed.taken.size, .slice E4 b.sealed.taken.peaks.length e4, .int .i64 b.sealed.head.number, .int .i64 b.sealed.head.size, .string b.sealed.head.root, .int .i64 b.sealed.head.taken, .string b.sealed.head.takenRoot] _ R0.out Tryz.underlying57 rfl (by kernel_rfl) ?_)
 refine (heldSeal_row (k := k + b.log.entries.length * 5 + b.receipts.length * 3 + b.heads.length * 5) b.sealed.leaves.size b.sealed.taken.size b.sealed.head _ (M.out.p.ext he) (M.out.q.ext he) (by omega) (by omega) (by omega)).mono ?_
 rintro e w4 ⟨rfl, h1⟩
 replace he := he.next h1
 have EN := hU (show ((k + b.log.entries.length * 5 + b.receipts.length * 3 + b.heads.length * 5 + b.sealed.leaves.peaks.length + b.sealed.taken.peaks.length : Nat) : Int) = ((k + BrkN b : Nat) : Int) by unfold BrkN; omega)
 clear h1 r0 f0 k0 R0 q1 q2 q3
 obtain ⟨kk, hkk⟩ : ∃ kk, kk = k + b.log.entries.length * 5 + b.receipts.length * 3 + b.heads.length * 5 + b.sealed.leaves.peaks.length + b.sealed.taken.peaks.length := ⟨_, rfl⟩
 rw [← hkk] at EN q4
 rw [← hkk]
 clear hkk
 go_wp2_with fail
 go_ret
 exact ⟨by rw [EN.out]; rfl, he⟩
end Go.Proofs.YtlgdghpnfclgpaaGreat

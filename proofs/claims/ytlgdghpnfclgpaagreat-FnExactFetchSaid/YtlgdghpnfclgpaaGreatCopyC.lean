/-
  CopyB; SameB; Reopen0; ReadHd; Reopen1; DiskOks; ReopenP; SpecUnfr; SpecRec; ReopenQ; ReopenR; CopyC: No condition.
-/
import Derived.Test.YtlgdghpnfclgpaaGreatLeafI
import Derived.Test.YtlgdghpnfclgpaaGreatBroker1
import Derived.Test.YtlgdghpnfclgpaaGreatBunch
import Derived.BigQuiet
import Derived.Test.YtlgdghpnfclgpaaGreatDisk0
import Derived.Test.YtlgdghpnfclgpaaGreatNodeW
import Derived.Test.YtlgdghpnfclgpaaGreatFetchP
import Derived.Test.YtlgdghpnfclgpaaGreatLogOks
import Derived.Test.YtlgdghpnfclgpaaGreatLeafText
import Derived.Test.YtlgdghpnfclgpaaGreatMapRec
namespace Go.Proofs.YtlgdghpnfclgpaaGreat
set_option linter.unusedSimpArgs false
open Go.RowKit
set_option linter.unusedVariables false

set_option maxHeartbeats 2000000
set_option maxRecDepth 100000
theorem peaksB_len {a b : List ByteArray} (h : a.length ≠ b.length) : peaksB a b = false := by
 cases e : peaksB a b
 · rfl
 · exact absurd (congrArg List.length (peaksB_iff.1 e)) h
theorem peaksB_at {a b : List ByteArray} {k : Nat} {x y : ByteArray} (ha : a[k]? = some x) (hb : b[k]? = some y) (h : (x.toList == y.toList) = false) : peaksB a b = false := by
 cases e : peaksB a b
 · rfl
 · have := peaksB_iff.1 e
   subst this
   rw [ha] at hb
   cases hb
   simp at h
theorem peaksB_all {a b : List ByteArray} (hl : a.length = b.length) (h : ∀ k x y, k < a.length → a[k]? = some x → b[k]? = some y → (x.toList == y.toList) = true) : peaksB a b = true := by
 rw [peaksB_iff]
 apply List.ext_getElem hl
 intro k h1 h2
 have := h k _ _ h1 (List.getElem?_eq_getElem h1) (List.getElem?_eq_getElem h2)
 exact bytes_toList.1 (by simpa using this)
theorem texts_cell {w : World} {B : Nat} {A : Option Addr} {l : List ByteArray} (hr : ReadsL w B sone 1 A l) {k : Nat} {x : ByteArray} (hx : l[k]? = some x) : ∃ b off, A = some ⟨b, off, none⟩ ∧ b < B ∧ w.cell? ⟨b, off + k, none⟩ = some (.string x) := by
 obtain ⟨b, off, e, hb, hc⟩ := Reads.at_ hr (k := k) (List.getElem?_eq_some_iff.1 hx).1
 have := hc 0 _ (flat_at _ 1 sone_length l k 0 x hx (by omega))
 rw [Nat.add_zero, Nat.mul_one] at this
 exact ⟨b, off, e, hb, this⟩
theorem slicesEqual_any (A A' : Option Addr) (c c' : Nat) (a b : List ByteArray) (w : World) (ha : ReadsL w w.heap.size sone 1 A a) (hb : ReadsL w w.heap.size sone 1 A' b) (hla : a.length ≤ 1048576) (hlb : b.length ≤ 1048576) :
 Calls Tryz.prog 219 #[.slice A a.length c, .slice A' b.length c'] w fun e w' => e = .returned (.bool (peaksB a b)) ∧ Ext w w' := by
 obtain ⟨fin, hfin⟩ : ∃ fin, fin = peaksB a b := ⟨_, rfl⟩
 rw [← hfin]
 by_cases hl : a.length = b.length
 case neg =>
  have E := hU (show fin = false by rw [hfin]; exact peaksB_len hl)
  have hl2 : ¬ ((a.length : Int) = (b.length : Int)) := by omega
  clear hfin
  go_enter Tryz.func219, Tryz.ntmps219
  go_wp2_with fail
  go_ret
  exact ⟨ret_bool E.out.symm, Below.refl w.heap.size w⟩
 have F := hU hfin
 obtain ⟨n, hn⟩ : ∃ n, n = a.length := ⟨_, rfl⟩
 have hn2 : b.length = n := by omega
 rw [← hn] at hla
 rw [← hn, hn2]
 have HN := hU hn; have HN2 := hU hn2
 clear hfin hl hn hn2 hlb
 go_enter Tryz.func219, Tryz.ntmps219
 go_wp2_with fail
 go_loopw [13] (fun i wr => ∃ k : Nat, k ≤ n ∧ i = .int .i64 k ∧ (∀ j x y, j < k → a[j]? = some x → b[j]? = some y → (x.toList == y.toList) = true) ∧ Ext w wr) (fun i _ => n - (intOf i).toNat)
 case atStart => exact ⟨0, Nat.zero_le _, rfl, fun j _ _ h => absurd h (Nat.not_lt_zero j), Below.refl w.heap.size w⟩
 case round =>
  obtain ⟨k, hk, rfl, hi, he⟩ := hrel
  have Hi := hU hi
  clear hi
  by_cases hlt : k < n
  case neg =>
   have E := hU (show fin = true by rw [F.out]; exact peaksB_all (by rw [← HN.out, HN2.out]) (fun j x y hj => Hi.out j x y (by have := HN.out; omega)))
   go_wp2_with fail
   go_ret
   exact ⟨ret_bool E.out.symm, he⟩
  obtain ⟨x, hx⟩ : ∃ x, a[k]? = some x := ⟨a[k]'(by have := HN.out; omega), List.getElem?_eq_getElem (by have := HN.out; omega)⟩
  obtain ⟨y, hy⟩ : ∃ y, b[k]? = some y := ⟨b[k]'(by have := HN2.out; omega), List.getElem?_eq_getElem (by have := HN2.out; omega)⟩
  obtain ⟨b1, o1, rfl, hb1, c1⟩ := texts_cell (ha.ext he) hx
  obtain ⟨b2, o2, rfl, hb2, c2⟩ := texts_cell (hb.ext he) hy
  have X := hU hx; have Y := hU hy
  clear hx hy ha hb
  cases q : (x.toList == y.toList)
  · have E := hU (show fin = false by rw [F.out]; exact peaksB_at X.out Y.out q)
    have q2 := nes_of_beq q
    go_wp2_with fail
    go_quiet (fail)
    go_wp2_with fail
    go_ret
    exact ⟨ret_bool E.out.symm, he.drewN _⟩
  · have E := hU (show ∀ j x y, j < k + 1 → a[j]? = some x → b[j]? = some y → (x.toList == y.toList) = true from fun j x' y' hj hx' hy' => by
     rcases Nat.lt_or_ge j k with h | h
     · exact Hi.out j x' y' h hx' hy'
     · obtain rfl : j = k := by omega
       have e1 := X.out.symm.trans hx'
       have e2 := Y.out.symm.trans hy'
       cases e1; cases e2; exact q)
    have q2 := nes_of_beq q
    go_wp2_with fail
    go_quiet (fail)
    go_wp2_with fail
    go_roundw
    case rel => exact ⟨k + 1, by omega, by go_num, E.out, he.drewN _⟩
    case measure => simp [intOf]; omega



def fileOk (x : ByteArray) : Bool := decide (x.size ≤ 300000)
def diskOk (l : List ByteArray) : Bool := l.length == 3 && l.all fileOk
def filesOf (l : List ByteArray) (i : Nat) : List ByteArray := (unf (l.getD i ⟨#[]⟩)).1
def dmg1 (i : Nat) (x : ByteArray) : List (Nat × Nat) := if (unf x).2 < x.size then [(i, (unf x).2)] else []
def dmgs : Nat → List ByteArray → List (Nat × Nat)
 | _, [] => []
 | i, x :: t => dmg1 i x ++ dmgs (i + 1) t
def reB0 (n : Int) (l : List ByteArray) : BrokerD := ⟨n, ⟨(filesOf l 0).map rlD⟩, (filesOf l 2).map rrD, newH true n :: (filesOf l 1).map (hrD n), ⟨⟨0, []⟩, ⟨0, []⟩, hz⟩⟩
def reB (n : Int) (l : List ByteArray) : BrokerD := { reB0 n l with sealed := sealOfH n (leavesH n (reB0 n l).log.entries) (takenH n (reB0 n l).receipts) (lastH (reB0 n l).heads) }
def reCode (n : Int) (l : List ByteArray) : Nat :=
 if !(inR n 1 32 && diskOk l) then 1
 else if !((filesOf l 0).all rlImpl && logOk (reB0 n l).log.entries) then 2
 else if !((filesOf l 2).all rrImpl && recsOk (reB0 n l).receipts) then 3
 else if !((filesOf l 1).all (hrImpl n) && brkParts (reB0 n l)) then 4
 else 0



def brkCs (b : BrokerD) (ve vr vh v1 v2 : Value) : List Value := [.int .i64 b.width, ve, vr, vh, .int .i64 b.sealed.leaves.size, v1, .int .i64 b.sealed.taken.size, v2, .int .i64 b.sealed.head.number, .int .i64 b.sealed.head.size, .string b.sealed.head.root, .int .i64 b.sealed.head.taken, .string b.sealed.head.takenRoot]
structure BRows (K : Nat) (w : World) (b : BrokerD) (ve vr vh v1 v2 : Value) : Prop where
 e : w.ownsRow K 46 5 ve b.log.entries.length (b.log.entries.flatMap EntryD.cells)
 r : w.ownsRow K 77 3 vr b.receipts.length (b.receipts.flatMap ReceiptD.cells)
 h : w.ownsRow K 55 5 vh b.heads.length (b.heads.flatMap HeadD.cells)
 p : RowT K w v1 b.sealed.leaves.peaks
 q : RowT K w v2 b.sealed.taken.peaks
theorem BRows.ext {K : Nat} {w w' : World} {b : BrokerD} {ve vr vh v1 v2 : Value} (h : BRows K w b ve vr vh v1 v2) (he : Ext w w') : BRows K w' b ve vr vh v1 v2 :=
 ⟨ownsRow_ext h.e he, ownsRow_ext h.r he, ownsRow_ext h.h he, RowT.ext h.p he, RowT.ext h.q he⟩
def noB : BrokerD := ⟨0, ⟨[]⟩, [], [], ⟨⟨0, []⟩, ⟨0, []⟩, hz⟩⟩
theorem BRows.zero (K : Nat) (w : World) : BRows K w noB (.slice none 0 0) (.slice none 0 0) (.slice none 0 0) (.slice none 0 0) (.slice none 0 0) :=
 ⟨World.ownsRow_nil _ _ _ _, World.ownsRow_nil _ _ _ _, World.ownsRow_nil _ _ _ _, World.ownsRow_nil _ _ _ _, World.ownsRow_nil _ _ _ _⟩
def dmgW (L : List (Nat × Nat)) : List WriteD := L.map fun x => ⟨(x.1 : Int), (x.2 : Int), ⟨#[]⟩⟩
def reBB (n : Int) (l : List ByteArray) : BrokerD := if reCode n l = 0 then reB n l else noB
def reW (n : Int) (l : List ByteArray) : List WriteD := if reCode n l = 0 then dmgW (dmgs 0 l) else []
def ReAns (n : Int) (l : List ByteArray) (w : World) (e : Ending) (w' : World) : Prop :=
 ∃ ve vr vh v1 v2 vw, e = .returned (.tuple #[.agg (brkCs (reBB n l) ve vr vh v1 v2).toArray, vw, .int .i64 (reCode n l : Int)]) ∧ BRows w.heap.size w' (reBB n l) ve vr vh v1 v2 ∧ (∀ x, v1.ownBlock = some x → v2.ownBlock ≠ some x) ∧
  w'.ownsRow w.heap.size 112 3 vw (reW n l).length ((reW n l).flatMap WriteD.cells) ∧ Ext w w'
theorem ReAns.bad {n : Int} {l : List ByteArray} {w w' : World} {e : Ending} {vw : Value} {k : Nat} (hk : reCode n l = k) (h0 : k ≠ 0) (he : e = .returned (.tuple #[.agg #[.int .i64 0, .slice none 0 0, .slice none 0 0, .slice none 0 0, .int .i64 0, .slice none 0 0, .int .i64 0, .slice none 0 0, .int .i64 0, .int .i64 0, .string ⟨#[]⟩, .int .i64 0, .string ⟨#[]⟩], vw, .int .i64 (k : Int)])) (ho : w'.ownsRow w.heap.size 112 3 vw 0 []) (hx : Ext w w') : ReAns n l w e w' := by
 have h1 : reBB n l = noB := by rw [reBB, hk, if_neg h0]
 have h2 : reW n l = [] := by rw [reW, hk, if_neg h0]
 refine ⟨.slice none 0 0, .slice none 0 0, .slice none 0 0, .slice none 0 0, .slice none 0 0, vw, ?_, ?_, (fun x h => by cases h), ?_, hx⟩
 · rw [he, h1, hk]; rfl
 · rw [h1]; exact BRows.zero _ _
 · rw [h2]; exact ho
def RowsIn (K : Nat) (w : World) (L : List (Nat × Nat × Value × Nat × List Value)) : Prop := ∀ x ∈ L, w.ownsRow K x.1 x.2.1 x.2.2.1 x.2.2.2.1 x.2.2.2.2
theorem RowsIn.nil (K : Nat) (w : World) : RowsIn K w [] := fun x h => by cases h
theorem RowsIn.cons {K : Nat} {w : World} {L : List (Nat × Nat × Value × Nat × List Value)} {e s n : Nat} {v : Value} {xs : List Value} (h : w.ownsRow K e s v n xs) (k : RowsIn K w L) : RowsIn K w ((e, s, v, n, xs) :: L) := fun x hx => by
 rcases List.mem_cons.1 hx with rfl | hx
 · exact h
 · exact k x hx
theorem RowsIn.ext {K : Nat} {w w' : World} {L : List (Nat × Nat × Value × Nat × List Value)} (h : RowsIn K w L) (he : Ext w w') : RowsIn K w' L := fun x hx => ownsRow_ext (h x hx) he
theorem RowsIn.head {K : Nat} {w : World} {L : List (Nat × Nat × Value × Nat × List Value)} {e s n : Nat} {v : Value} {xs : List Value} (h : RowsIn K w ((e, s, v, n, xs) :: L)) : w.ownsRow K e s v n xs := h _ (List.mem_cons_self ..)
theorem own_ne {w : World} {K e size n G t : Nat} {v : Value} {xs : List Value} {cs : Array Value} (h : w.ownsRow K e size v n xs) (hb : Blk w G t cs) (ht : t ≠ e) : ∀ x, v.ownBlock = some x → x ≠ G := by
 intro x hx hG
 subst hG
 rcases h.2 with ⟨rfl, _⟩ | ⟨g, cap, cur, rfl, hg, hh, _⟩
 · cases hx
 · simp [Value.ownBlock] at hx
   subst hx
   have hb' : w.heap[g]? = some (.cells cs t (0, 0)) := hb
   rw [hh] at hb'
   simp at hb'
   exact ht hb'.2.symm
theorem own_apart {w : World} {K e size n K' e' size' n' : Nat} {v v' : Value} {xs xs' : List Value} (h : w.ownsRow K e size v n xs) (h' : w.ownsRow K' e' size' v' n' xs') (ht : e ≠ e') : ∀ x, v.ownBlock = some x → v'.ownBlock ≠ some x := by
 intro x hx hx'
 rcases h.2 with ⟨rfl, _⟩ | ⟨g, cap, cur, rfl, hg, hh, _⟩
 · cases hx
 · rcases h'.2 with ⟨rfl, _⟩ | ⟨g', cap', cur', rfl, hg', hh', _⟩
   · cases hx'
   · simp [Value.ownBlock] at hx hx'
     subst hx; subst hx'
     rw [hh] at hh'
     simp at hh'
     exact ht hh'.2
theorem RowsIn.put {K G T : Nat} {w : World} {L : List (Nat × Nat × Value × Nat × List Value)} {cc : Array Value} (h : RowsIn K w L) (hb : Blk w G T cc) (hT : ∀ x ∈ L, T ≠ x.1) (vs : List Value) (o : Nat) : RowsIn K (w.setCells G o vs) L := fun x hx => by
 have hf := Frm.setCells (Frm.refl (fun b => b = G) w) (g := G) (fun _ => rfl) vs o
 exact hf.own (h x hx) (fun y hy => own_ne (h x hx) hb (hT x hx) y hy)
theorem RowsIn.frm {K : Nat} {w w' : World} {L : List (Nat × Nat × Value × Nat × List Value)} {K' e s n : Nat} {v : Value} {xs : List Value} (h : RowsIn K w L) (ho : w.ownsRow K' e s v n xs) (hf : Frm (fun b => v.ownBlock = some b) w w') (hT : ∀ x ∈ L, x.1 ≠ e) : RowsIn K w' L := fun x hx =>
 hf.own (h x hx) (fun y hy e2 => own_apart (h x hx) ho (hT x hx) y hy e2)
theorem slf_at {α : Type} {f : α → List Value} {size B : Nat} {t : TypeId} {w : World} {A : Option Addr} {c : Nat} {l : List α} (h : w.ownsRow B t size (.slice A l.length c) l.length (l.flatMap f)) : SlF AnyB f size w A l c := by
 obtain ⟨A', c', e, s⟩ := slf_own h
 cases e
 exact s.any
structure BArg (p : Nat → Prop) (w : World) (b : BrokerD) (E0 : Option Addr) (e0 : Nat) (E1 : Option Addr) (e1 : Nat) (E2 : Option Addr) (e2 : Nat) (E3 : Option Addr) (e3 : Nat) (E4 : Option Addr) (e4 : Nat) : Prop where
 e : SlF p EntryD.cells 5 w E0 b.log.entries e0
 r : SlF p ReceiptD.cells 3 w E1 b.receipts e1
 h : SlF p HeadD.cells 5 w E2 b.heads e2
 u : SlF p sone 1 w E3 b.sealed.leaves.peaks e3
 v : SlF p sone 1 w E4 b.sealed.taken.peaks e4
theorem BArg.keep {p : Nat → Prop} {w w' : World} {b : BrokerD} {E0 E1 E2 E3 E4 : Option Addr} {e0 e1 e2 e3 e4 : Nat} (h : BArg p w b E0 e0 E1 e1 E2 e2 E3 e3 E4 e4) (he : Keep p w w') : BArg p w' b E0 e0 E1 e1 E2 e2 E3 e3 E4 e4 := ⟨h.e.keep he, h.r.keep he, h.h.keep he, h.u.keep he, h.v.keep he⟩
theorem BArg.ext {p : Nat → Prop} {w w' : World} {b : BrokerD} {E0 E1 E2 E3 E4 : Option Addr} {e0 e1 e2 e3 e4 : Nat} (h : BArg p w b E0 e0 E1 e1 E2 e2 E3 e3 E4 e4) (he : Ext w w') : BArg p w' b E0 e0 E1 e1 E2 e2 E3 e3 E4 e4 := ⟨h.e.ext he, h.r.ext he, h.h.ext he, h.u.ext he, h.v.ext he⟩
theorem BArg.any {p : Nat → Prop} {w : World} {b : BrokerD} {E0 E1 E2 E3 E4 : Option Addr} {e0 e1 e2 e3 e4 : Nat} (h : BArg p w b E0 e0 E1 e1 E2 e2 E3 e3 E4 e4) : BArg AnyB w b E0 e0 E1 e1 E2 e2 E3 e3 E4 e4 := ⟨h.e.any, h.r.any, h.h.any, h.u.any, h.v.any⟩
structure BSz (b : BrokerD) : Prop where
 e : b.log.entries.length ≤ 1048576
 r : b.receipts.length ≤ 1048576
 h : b.heads.length ≤ 1048576
 u : b.sealed.leaves.peaks.length ≤ 1048576
 v : b.sealed.taken.peaks.length ≤ 1048576
theorem put_whole {w : World} {g : Nat} {t : TypeId} {cs : Array Value} (h : Blk w g t cs) (vs : List Value) (hv : cs.size = vs.length) : Blk (w.setCells g 0 vs) g t vs.toArray :=
 h.put 0 vs vs.toArray (by omega) (by rw [List.take_zero, List.nil_append, List.drop_eq_nil_of_le (by rw [Array.length_toList]; omega), List.append_nil])
structure CpS (w : World) (g n : Nat) (T : TypeId) (cs : Array Value) (w' : World) : Prop where
 a : Blk w' g T cs
 z : ∃ ds : Array Value, ds.size = n ∧ Blk w' (g + 1) T ds
 x : Ext w w'
theorem CpS.ext {w w1 w2 : World} {g n : Nat} {T : TypeId} {cs : Array Value} (h : CpS w g n T cs w1) (he : Ext w1 w2) : CpS w g n T cs w2 := by
 obtain ⟨ds, h1, h2⟩ := h.z
 exact ⟨h.a.ext he, ⟨ds, h1, h2.ext he⟩, h.x.next he⟩
theorem CpS.there {w w1 : World} {g n : Nat} {T : TypeId} {cs : Array Value} (h : CpS w g n T cs w1) : w1.there (g + 1) 0 n := by
 obtain ⟨ds, h1, h2⟩ := h.z
 exact h2.there 0 n (by omega)
theorem CpS.lt {w w1 : World} {g n : Nat} {T : TypeId} {cs : Array Value} (h : CpS w g n T cs w1) : g + 2 ≤ w1.heap.size := by
 obtain ⟨ds, h1, h2⟩ := h.z
 exact h2.lt
theorem CpS.put {w w1 : World} {g n : Nat} {T : TypeId} {cs : Array Value} (h : CpS w g n T cs w1) (hg : w.heap.size ≤ g) (vs : List Value) (hv : n = vs.length) : CpS w g n T cs (w1.setCells (g + 1) 0 vs) ∧ Blk (w1.setCells (g + 1) 0 vs) (g + 1) T vs.toArray := by
 obtain ⟨ds, h1, h2⟩ := h.z
 have k := put_whole h2 vs (by omega)
 exact ⟨⟨h.a.farCells (by omega) vs 0, ⟨_, by simp [hv], k⟩, ext_setCells (by omega) vs 0 _ h.x⟩, k⟩
theorem row_far {w1 : World} {B K g e size n : Nat} {v : Value} {xs : List Value} (h : w1.ownsRow K e size v n xs) (hg : g < K) (hB : B ≤ K) (vs : List Value) (o : Nat) : (w1.setCells g o vs).ownsRow B e size v n xs :=
 ownsRow_base (ownsRow_far h (grow_setCells g vs o w1 w1 (World.grownBy.refl _ _)) hg) hB
end Go.Proofs.YtlgdghpnfclgpaaGreat

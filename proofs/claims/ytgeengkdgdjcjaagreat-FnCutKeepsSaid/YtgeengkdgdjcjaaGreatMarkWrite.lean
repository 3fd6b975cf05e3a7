/-
  ReopenR; CopyC; BrkOwn; StrS; MarkS; MarkBase; MarkEntry; MarkOwnEntry; MarkReceipt; MarkOwnReceipt; MarkHead; MarkOwnHead; MarkWrite: No condition.
-/
import Derived.Test.YtgeengkdgdjcjaaGreatGrowB
import Derived.Test.YtgeengkdgdjcjaaGreatStoreL
import Derived.Test.YtgeengkdgdjcjaaGreatClientNw
import Derived.Test.YtgeengkdgdjcjaaGreatReadRec
import Derived.Test.YtgeengkdgdjcjaaGreatMem
import Derived.Test.YtgeengkdgdjcjaaGreatWords
import Derived.Test.YtgeengkdgdjcjaaGreatLeaf
namespace Go.Proofs.YtgeengkdgdjcjaaGreat
set_option linter.unusedSimpArgs false
open Go.RowKit
set_option linter.unusedVariables false
def brkCs (b : BrokerD) (ve vr vh v1 v2 : Value) : List Value := [.int .i64 b.width, ve, vr, vh, .int .i64 b.sealed.leaves.size, v1, .int .i64 b.sealed.taken.size, v2, .int .i64 b.sealed.head.number, .int .i64 b.sealed.head.size, .string b.sealed.head.root, .int .i64 b.sealed.head.taken, .string b.sealed.head.takenRoot]
structure BRows (K : Nat) (w : World) (b : BrokerD) (ve vr vh v1 v2 : Value) : Prop where
 e : w.ownsRow K 56 5 ve b.log.entries.length (b.log.entries.flatMap EntryD.cells)
 r : w.ownsRow K 58 3 vr b.receipts.length (b.receipts.flatMap ReceiptD.cells)
 h : w.ownsRow K 33 5 vh b.heads.length (b.heads.flatMap HeadD.cells)
 p : RowT K w v1 b.sealed.leaves.peaks
 q : RowT K w v2 b.sealed.taken.peaks
theorem BRows.ext {K : Nat} {w w' : World} {b : BrokerD} {ve vr vh v1 v2 : Value} (h : BRows K w b ve vr vh v1 v2) (he : Ext w w') : BRows K w' b ve vr vh v1 v2 :=
 ⟨ownsRow_ext h.e he, ownsRow_ext h.r he, ownsRow_ext h.h he, RowT.ext h.p he, RowT.ext h.q he⟩
def noB : BrokerD := ⟨0, ⟨[]⟩, [], [], ⟨⟨0, []⟩, ⟨0, []⟩, hz⟩⟩
theorem BRows.zero (K : Nat) (w : World) : BRows K w noB (.slice none 0 0) (.slice none 0 0) (.slice none 0 0) (.slice none 0 0) (.slice none 0 0) :=
 ⟨World.ownsRow_nil _ _ _ _, World.ownsRow_nil _ _ _ _, World.ownsRow_nil _ _ _ _, World.ownsRow_nil _ _ _ _, World.ownsRow_nil _ _ _ _⟩
def dmgW (L : List (Nat × Nat)) : List WriteD := L.map fun x => ⟨(x.1 : Int), (x.2 : Int), ⟨#[]⟩⟩
theorem dmgW_append (a b : List (Nat × Nat)) : dmgW (a ++ b) = dmgW a ++ dmgW b := List.map_append
def reBB (n : Int) (l : List ByteArray) : BrokerD := if reCode n l = 0 then reB n l else noB
def reW (n : Int) (l : List ByteArray) : List WriteD := if reCode n l = 0 then dmgW (dmgs 0 l) else []
def ReAns (n : Int) (l : List ByteArray) (w : World) (e : Ending) (w' : World) : Prop :=
 ∃ ve vr vh v1 v2 vw, e = .returned (.tuple #[.agg (brkCs (reBB n l) ve vr vh v1 v2).toArray, vw, .int .i64 (reCode n l : Int)]) ∧ BRows w.heap.size w' (reBB n l) ve vr vh v1 v2 ∧ (∀ x, v1.ownBlock = some x → v2.ownBlock ≠ some x) ∧
  w'.ownsRow w.heap.size 63 3 vw (reW n l).length ((reW n l).flatMap WriteD.cells) ∧ Ext w w'
theorem ReAns.bad {n : Int} {l : List ByteArray} {w w' : World} {e : Ending} {vw : Value} {k : Nat} (hk : reCode n l = k) (h0 : k ≠ 0) (he : e = .returned (.tuple #[.agg #[.int .i64 0, .slice none 0 0, .slice none 0 0, .slice none 0 0, .int .i64 0, .slice none 0 0, .int .i64 0, .slice none 0 0, .int .i64 0, .int .i64 0, .string ⟨#[]⟩, .int .i64 0, .string ⟨#[]⟩], vw, .int .i64 (k : Int)])) (ho : w'.ownsRow w.heap.size 63 3 vw 0 []) (hx : Ext w w') : ReAns n l w e w' := by
 have h1 : reBB n l = noB := by rw [reBB, hk, if_neg h0]
 have h2 : reW n l = [] := by rw [reW, hk, if_neg h0]
 refine ⟨.slice none 0 0, .slice none 0 0, .slice none 0 0, .slice none 0 0, .slice none 0 0, vw, ?_, ?_, (fun x h => by cases h), ?_, hx⟩
 · rw [he, h1, hk]; rfl
 · rw [h1]; exact BRows.zero _ _
 · rw [h2]; exact ho
theorem ReAns.good {n : Int} {l : List ByteArray} {w w' : World} {e : Ending} {ve vr vh v1 v2 vw : Value} (hk : reCode n l = 0) (he : e = .returned (.tuple #[.agg (brkCs (reB n l) ve vr vh v1 v2).toArray, vw, .int .i64 0])) (hb : BRows w.heap.size w' (reB n l) ve vr vh v1 v2) (ha : ∀ x, v1.ownBlock = some x → v2.ownBlock ≠ some x)
 (ho : w'.ownsRow w.heap.size 63 3 vw (dmgW (dmgs 0 l)).length ((dmgW (dmgs 0 l)).flatMap WriteD.cells)) (hx : Ext w w') : ReAns n l w e w' := by
 have h1 : reBB n l = reB n l := by rw [reBB, hk, if_pos rfl]
 have h2 : reW n l = dmgW (dmgs 0 l) := by rw [reW, hk, if_pos rfl]
 refine ⟨ve, vr, vh, v1, v2, vw, ?_, ?_, ha, ?_, hx⟩
 · rw [he, h1, hk]; rfl
 · rw [h1]; exact hb
 · rw [h2]; exact ho
theorem re1 {n : Int} {l : List ByteArray} (h : (inR n 1 32 && diskOk l) = false) : reCode n l = 1 := by unfold reCode; rw [h]; rfl
theorem re2 {n : Int} {l : List ByteArray} (h : (inR n 1 32 && diskOk l) = true) (h1 : ((filesOf l 0).all rlImpl && logOk (reB0 n l).log.entries) = false) : reCode n l = 2 := by unfold reCode; rw [h, h1]; rfl
theorem re3 {n : Int} {l : List ByteArray} (h : (inR n 1 32 && diskOk l) = true) (h1 : ((filesOf l 0).all rlImpl && logOk (reB0 n l).log.entries) = true) (h2 : ((filesOf l 2).all rrImpl && recsOk (reB0 n l).receipts) = false) : reCode n l = 3 := by unfold reCode; rw [h, h1, h2]; rfl
theorem re4 {n : Int} {l : List ByteArray} (h : (inR n 1 32 && diskOk l) = true) (h1 : ((filesOf l 0).all rlImpl && logOk (reB0 n l).log.entries) = true) (h2 : ((filesOf l 2).all rrImpl && recsOk (reB0 n l).receipts) = true) (h3 : ((filesOf l 1).all (hrImpl n) && brkParts (reB0 n l)) = false) : reCode n l = 4 := by unfold reCode; rw [h, h1, h2, h3]; rfl
theorem re0 {n : Int} {l : List ByteArray} (h : (inR n 1 32 && diskOk l) = true) (h1 : ((filesOf l 0).all rlImpl && logOk (reB0 n l).log.entries) = true) (h2 : ((filesOf l 2).all rrImpl && recsOk (reB0 n l).receipts) = true) (h3 : ((filesOf l 1).all (hrImpl n) && brkParts (reB0 n l)) = true) : reCode n l = 0 := by unfold reCode; rw [h, h1, h2, h3]; rfl
theorem disk_three {l : List ByteArray} (h : diskOk l = true) : l.length = 3 := by
 simp only [diskOk, Bool.and_eq_true, beq_iff_eq] at h
 exact h.1
def RowsIn (K : Nat) (w : World) (L : List (Nat × Nat × Value × Nat × List Value)) : Prop := ∀ x ∈ L, w.ownsRow K x.1 x.2.1 x.2.2.1 x.2.2.2.1 x.2.2.2.2
theorem RowsIn.nil (K : Nat) (w : World) : RowsIn K w [] := fun x h => by cases h
theorem RowsIn.cons {K : Nat} {w : World} {L : List (Nat × Nat × Value × Nat × List Value)} {e s n : Nat} {v : Value} {xs : List Value} (h : w.ownsRow K e s v n xs) (k : RowsIn K w L) : RowsIn K w ((e, s, v, n, xs) :: L) := fun x hx => by
 rcases List.mem_cons.1 hx with rfl | hx
 · exact h
 · exact k x hx
theorem RowsIn.ext {K : Nat} {w w' : World} {L : List (Nat × Nat × Value × Nat × List Value)} (h : RowsIn K w L) (he : Ext w w') : RowsIn K w' L := fun x hx => ownsRow_ext (h x hx) he
theorem RowsIn.head {K : Nat} {w : World} {L : List (Nat × Nat × Value × Nat × List Value)} {e s n : Nat} {v : Value} {xs : List Value} (h : RowsIn K w ((e, s, v, n, xs) :: L)) : w.ownsRow K e s v n xs := h _ (List.mem_cons_self ..)
theorem RowsIn.tail {K : Nat} {w : World} {L : List (Nat × Nat × Value × Nat × List Value)} {x : Nat × Nat × Value × Nat × List Value} (h : RowsIn K w (x :: L)) : RowsIn K w L := fun y hy => h y (List.mem_cons_of_mem _ hy)
theorem own_ne {w : World} {K e size n G t : Nat} {v : Value} {xs : List Value} {cs : Array Value} (h : w.ownsRow K e size v n xs) (hb : Blk w G t cs) (ht : t ≠ e) : ∀ x, v.ownBlock = some x → x ≠ G := by
 intro x hx hG
 subst hG
 rcases h.2 with ⟨rfl, _⟩ | ⟨g, cap, cur, rfl, hg, hh, _⟩
 · cases hx
 · simp [Value.ownBlock] at hx
   subst hx
   have hb' : w.heap[g]? = some (.cells cs t (0, 0)) := hb
   rw [hh] at hb'
   simp at hb'
   exact ht hb'.2.symm
theorem own_apart {w : World} {K e size n K' e' size' n' : Nat} {v v' : Value} {xs xs' : List Value} (h : w.ownsRow K e size v n xs) (h' : w.ownsRow K' e' size' v' n' xs') (ht : e ≠ e') : ∀ x, v.ownBlock = some x → v'.ownBlock ≠ some x := by
 intro x hx hx'
 rcases h.2 with ⟨rfl, _⟩ | ⟨g, cap, cur, rfl, hg, hh, _⟩
 · cases hx
 · rcases h'.2 with ⟨rfl, _⟩ | ⟨g', cap', cur', rfl, hg', hh', _⟩
   · cases hx'
   · simp [Value.ownBlock] at hx hx'
     subst hx; subst hx'
     rw [hh] at hh'
     simp at hh'
     exact ht hh'.2
theorem RowsIn.put {K G T : Nat} {w : World} {L : List (Nat × Nat × Value × Nat × List Value)} {cc : Array Value} (h : RowsIn K w L) (hb : Blk w G T cc) (hT : ∀ x ∈ L, T ≠ x.1) (vs : List Value) (o : Nat) : RowsIn K (w.setCells G o vs) L := fun x hx => by
 have hf := Frm.setCells (Frm.refl (fun b => b = G) w) (g := G) (fun _ => rfl) vs o
 exact hf.own (h x hx) (fun y hy => own_ne (h x hx) hb (hT x hx) y hy)
theorem RowsIn.frm {K : Nat} {w w' : World} {L : List (Nat × Nat × Value × Nat × List Value)} {K' e s n : Nat} {v : Value} {xs : List Value} (h : RowsIn K w L) (ho : w.ownsRow K' e s v n xs) (hf : Frm (fun b => v.ownBlock = some b) w w') (hT : ∀ x ∈ L, x.1 ≠ e) : RowsIn K w' L := fun x hx =>
 hf.own (h x hx) (fun y hy e2 => own_apart (h x hx) ho (hT x hx) y hy e2)
theorem slf_at {α : Type} {f : α → List Value} {size B : Nat} {t : TypeId} {w : World} {A : Option Addr} {c : Nat} {l : List α} (h : w.ownsRow B t size (.slice A l.length c) l.length (l.flatMap f)) : SlF AnyB f size w A l c := by
 obtain ⟨A', c', e, s⟩ := slf_own h
 cases e
 exact s.any
theorem RowT.ofBase {B K : Nat} {w : World} {v : Value} {ts : List ByteArray} (h : RowT B w v ts) (hK : K ≤ B) : RowT K w v ts := ownsRow_base h hK
theorem take_set (vs : List Value) (k j : Nat) (u v : Value) (hk : k < vs.length) : (vs.take k ++ [v] ++ vs.drop (k + 1)).getD j u = if j = k then v else vs.getD j u := by
 have : vs.take k ++ [v] ++ vs.drop (k + 1) = vs.set k v := by rw [List.set_eq_take_append_cons_drop, if_pos hk]; simp
 rw [this]
 simp only [List.getD_eq_getElem?_getD, List.getElem?_set]
 by_cases h : k = j
 · subst h; simp [hk]
 · rw [if_neg h, if_neg (fun e => h e.symm)]
structure BArg (p : Nat → Prop) (w : World) (b : BrokerD) (E0 : Option Addr) (e0 : Nat) (E1 : Option Addr) (e1 : Nat) (E2 : Option Addr) (e2 : Nat) (E3 : Option Addr) (e3 : Nat) (E4 : Option Addr) (e4 : Nat) : Prop where
 e : SlF p EntryD.cells 5 w E0 b.log.entries e0
 r : SlF p ReceiptD.cells 3 w E1 b.receipts e1
 h : SlF p HeadD.cells 5 w E2 b.heads e2
 u : SlF p sone 1 w E3 b.sealed.leaves.peaks e3
 v : SlF p sone 1 w E4 b.sealed.taken.peaks e4
theorem BArg.keep {p : Nat → Prop} {w w' : World} {b : BrokerD} {E0 E1 E2 E3 E4 : Option Addr} {e0 e1 e2 e3 e4 : Nat} (h : BArg p w b E0 e0 E1 e1 E2 e2 E3 e3 E4 e4) (he : Keep p w w') : BArg p w' b E0 e0 E1 e1 E2 e2 E3 e3 E4 e4 := ⟨h.e.keep he, h.r.keep he, h.h.keep he, h.u.keep he, h.v.keep he⟩
theorem BArg.ext {p : Nat → Prop} {w w' : World} {b : BrokerD} {E0 E1 E2 E3 E4 : Option Addr} {e0 e1 e2 e3 e4 : Nat} (h : BArg p w b E0 e0 E1 e1 E2 e2 E3 e3 E4 e4) (he : Ext w w') : BArg p w' b E0 e0 E1 e1 E2 e2 E3 e3 E4 e4 := ⟨h.e.ext he, h.r.ext he, h.h.ext he, h.u.ext he, h.v.ext he⟩
theorem BArg.any {p : Nat → Prop} {w : World} {b : BrokerD} {E0 E1 E2 E3 E4 : Option Addr} {e0 e1 e2 e3 e4 : Nat} (h : BArg p w b E0 e0 E1 e1 E2 e2 E3 e3 E4 e4) : BArg AnyB w b E0 e0 E1 e1 E2 e2 E3 e3 E4 e4 := ⟨h.e.any, h.r.any, h.h.any, h.u.any, h.v.any⟩
structure BSz (b : BrokerD) : Prop where
 e : b.log.entries.length ≤ 1048576
 r : b.receipts.length ≤ 1048576
 h : b.heads.length ≤ 1048576
 u : b.sealed.leaves.peaks.length ≤ 1048576
 v : b.sealed.taken.peaks.length ≤ 1048576
theorem put_whole {w : World} {g : Nat} {t : TypeId} {cs : Array Value} (h : Blk w g t cs) (vs : List Value) (hv : cs.size = vs.length) : Blk (w.setCells g 0 vs) g t vs.toArray :=
 h.put 0 vs vs.toArray (by omega) (by rw [List.take_zero, List.nil_append, List.drop_eq_nil_of_le (by rw [Array.length_toList]; omega), List.append_nil])
structure CpS (w : World) (g n : Nat) (T : TypeId) (cs : Array Value) (w' : World) : Prop where
 a : Blk w' g T cs
 z : ∃ ds : Array Value, ds.size = n ∧ Blk w' (g + 1) T ds
 x : Ext w w'
theorem CpS.ext {w w1 w2 : World} {g n : Nat} {T : TypeId} {cs : Array Value} (h : CpS w g n T cs w1) (he : Ext w1 w2) : CpS w g n T cs w2 := by
 obtain ⟨ds, h1, h2⟩ := h.z
 exact ⟨h.a.ext he, ⟨ds, h1, h2.ext he⟩, h.x.next he⟩
theorem CpS.there {w w1 : World} {g n : Nat} {T : TypeId} {cs : Array Value} (h : CpS w g n T cs w1) : w1.there (g + 1) 0 n := by
 obtain ⟨ds, h1, h2⟩ := h.z
 exact h2.there 0 n (by omega)
theorem CpS.lt {w w1 : World} {g n : Nat} {T : TypeId} {cs : Array Value} (h : CpS w g n T cs w1) : g + 2 ≤ w1.heap.size := by
 obtain ⟨ds, h1, h2⟩ := h.z
 exact h2.lt
theorem CpS.put {w w1 : World} {g n : Nat} {T : TypeId} {cs : Array Value} (h : CpS w g n T cs w1) (hg : w.heap.size ≤ g) (vs : List Value) (hv : n = vs.length) : CpS w g n T cs (w1.setCells (g + 1) 0 vs) ∧ Blk (w1.setCells (g + 1) 0 vs) (g + 1) T vs.toArray := by
 obtain ⟨ds, h1, h2⟩ := h.z
 have k := put_whole h2 vs (by omega)
 exact ⟨⟨h.a.farCells (by omega) vs 0, ⟨_, by simp [hv], k⟩, ext_setCells (by omega) vs 0 _ h.x⟩, k⟩
theorem row_far {w1 : World} {B K g e size n : Nat} {v : Value} {xs : List Value} (h : w1.ownsRow K e size v n xs) (hg : g < K) (hB : B ≤ K) (vs : List Value) (o : Nat) : (w1.setCells g o vs).ownsRow B e size v n xs :=
 ownsRow_base (ownsRow_far h (grow_setCells g vs o w1 w1 (World.grownBy.refl _ _)) hg) hB

theorem OwnS.reads {W w : World} {v : Value} {l : List ByteArray} (h : OwnS W w v l) : ∃ A c, v = .slice A l.length c ∧ Reads w w.heap.size 1 A l.length (svals l) := by
 obtain ⟨A, c, rfl, _⟩ := ownsRow_form h
 exact ⟨A, c, rfl, Reads.of_own h⟩
def decB : Nat → Nat → ByteArray → ByteArray
 | 0, _, t => t
 | f + 1, k, t => if k = 0 then t else decB f (k / 10) (ofInts [48 + (k : Int) % 10] ++ t)
def markB (k : Nat) : ByteArray := if k = 0 then ⟨#[109, 48]⟩ else ⟨#[109]⟩ ++ decB k k ⟨#[]⟩
section
variable {α : Type} {f : α → List Value} {size : Nat} {l : List α} {cs : Array Value} {k : Nat}
end
theorem Blk.has {w : World} {g t : Nat} {cs : Array Value} (h : Blk w g t cs) {i : Nat} (hi : i < cs.size) : ∃ v, w.cell? ⟨g, i, none⟩ = some v := ⟨_, by rw [h.cell]; exact Array.getElem?_eq_getElem hi⟩
def EntryD.mk_ (k : Nat) : EntryD := ⟨markB k, ((k + 1 : Nat) : Int), ((k + 2 : Nat) : Int), markB (k + 3), markB (k + 4)⟩
def EntryD.mkL (k n : Nat) : List EntryD := (List.range n).map (fun i => EntryD.mk_ (k + i * 5))

def ReceiptD.mk_ (k : Nat) : ReceiptD := ⟨markB k, markB (k + 1), ((k + 2 : Nat) : Int)⟩
def ReceiptD.mkL (k n : Nat) : List ReceiptD := (List.range n).map (fun i => ReceiptD.mk_ (k + i * 3))

def HeadD.mk_ (k : Nat) : HeadD := ⟨(k : Int), ((k + 1 : Nat) : Int), markB (k + 2), ((k + 3 : Nat) : Int), markB (k + 4)⟩
def HeadD.mkL (k n : Nat) : List HeadD := (List.range n).map (fun i => HeadD.mk_ (k + i * 5))

def WriteD.mk_ (k : Nat) : WriteD := ⟨(k : Int), ((k + 1 : Nat) : Int), markB (k + 2)⟩
def WriteD.mkL (k n : Nat) : List WriteD := (List.range n).map (fun i => WriteD.mk_ (k + i * 3))
end Go.Proofs.YtgeengkdgdjcjaaGreat

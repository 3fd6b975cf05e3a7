/-
  LogOks; DiskOks; ReopenP; SpecUnfr; SpecRec; ReopenQ; NodeW; GrowB; ReopenR: No condition.
-/
import Derived.Test.YthnpdoadmglipaaGreatBroker0
import Derived.Test.YthnpdoadmglipaaGreatMapRec
import Derived.Test.YthnpdoadmglipaaGreatBunch
import Derived.Test.YthnpdoadmglipaaGreatHeadRead
import Derived.Test.YthnpdoadmglipaaGreatFrm
import Derived.Test.YthnpdoadmglipaaGreatFramesLaw
import Derived.Test.YthnpdoadmglipaaGreatClientNw
import Derived.Test.YthnpdoadmglipaaGreatAppSrc
import Derived.Test.YthnpdoadmglipaaGreatHashTop
import Derived.Test.YthnpdoadmglipaaGreatBrkNew
namespace Go.Proofs.YthnpdoadmglipaaGreat
set_option linter.unusedSimpArgs false
open Go.RowKit
set_option linter.unusedVariables false
theorem reads_take {α : Type} {f : α → List Value} {size : Nat} {w : World} {B : Nat} {A : Option Addr} {l : List α} (hf : ∀ a, (f a).length = size) (h : ReadsL w B f size A l) (k : Nat) (hk : k ≤ l.length) : ReadsL w B f size A (l.take k) := by
 refine ⟨flat_len f size hf _, fun hn => ?_⟩
 obtain ⟨b, off, e, hb, hc⟩ := h.2 (by rw [List.length_take] at hn; omega)
 refine ⟨b, off, e, hb, fun j u hu => hc j u ?_⟩
 conv => lhs; rw [← List.take_append_drop k l, List.flatMap_append]
 rw [List.getElem?_append_left (List.getElem?_eq_some_iff.1 hu).1]
 exact hu
def fileOk (x : ByteArray) : Bool := decide (x.size ≤ 300000)
def diskOk (l : List ByteArray) : Bool := l.length == 3 && l.all fileOk
def filesOf (l : List ByteArray) (i : Nat) : List ByteArray := (unf (l.getD i ⟨#[]⟩)).1
def dmg1 (i : Nat) (x : ByteArray) : List (Nat × Nat) := if (unf x).2 < x.size then [(i, (unf x).2)] else []
def dmgs : Nat → List ByteArray → List (Nat × Nat)
 | _, [] => []
 | i, x :: t => dmg1 i x ++ dmgs (i + 1) t
def reB0 (n : Int) (l : List ByteArray) : BrokerD := ⟨n, ⟨(filesOf l 0).map rlD⟩, (filesOf l 2).map rrD, newH true n :: (filesOf l 1).map (hrD n), ⟨⟨0, []⟩, ⟨0, []⟩, hz⟩⟩
def reB (n : Int) (l : List ByteArray) : BrokerD := { reB0 n l with sealed := sealOfH n (leavesH n (reB0 n l).log.entries) (takenH n (reB0 n l).receipts) (lastH (reB0 n l).heads) }
def reCode (n : Int) (l : List ByteArray) : Nat :=
 if !(inR n 1 32 && diskOk l) then 1
 else if !((filesOf l 0).all rlImpl && logOk (reB0 n l).log.entries) then 2
 else if !((filesOf l 2).all rrImpl && recsOk (reB0 n l).receipts) then 3
 else if !((filesOf l 1).all (hrImpl n) && brkParts (reB0 n l)) then 4
 else 0




def RowT (B : Nat) (w : World) (v : Value) (ts : List ByteArray) : Prop := w.ownsRow B 9 1 v ts.length (ts.flatMap sone)
theorem RowT.ext {B : Nat} {w w' : World} {v : Value} {ts : List ByteArray} (h : RowT B w v ts) (he : Ext w w') : RowT B w' v ts := ownsRow_ext h he
theorem RowT.of {B : Nat} {w : World} {v : Value} {n : Nat} {xs : List Value} {ts : List ByteArray} (h : w.ownsRow B 9 1 v n xs) (hn : n = ts.length) (hx : xs = ts.flatMap sone) : RowT B w v ts := by
 subst hn; subst hx; exact h
theorem RowT.nil (B : Nat) (w : World) : RowT B w (.slice none 0 0) [] := World.ownsRow_nil w B 9 1
theorem RowT.apart {B g T : Nat} {w : World} {v : Value} {ts : List ByteArray} {cs : Array Value} (h : RowT B w v ts) (hB : Blk w g T cs) (hT : T ≠ 9) : ∀ b, v.ownBlock = some b → b ≠ g := by
 intro b hb e
 subst e
 rcases h.2 with ⟨h1, _⟩ | ⟨g2, cap, cur, hv, hg, hh, _⟩
 · rw [h1] at hb; cases hb
 · rw [hv] at hb
   obtain rfl : g2 = b := by simpa [Value.ownBlock] using hb
   have := hB.symm.trans hh
   simp at this
   exact hT this.2
theorem RowT.lt {B : Nat} {w : World} {v : Value} {ts : List ByteArray} (h : RowT B w v ts) : ∀ b, v.ownBlock = some b → B ≤ b ∧ b < w.heap.size := fun b hb => World.ownsRow.lt h b hb
theorem RowT.setCell {B g T : Nat} {w : World} {v : Value} {ts : List ByteArray} {cs : Array Value} (h : RowT B w v ts) (hB : Blk w g T cs) (hT : T ≠ 9) (o : Nat) (u : Value) : RowT B (w.setCell ⟨g, o, none⟩ u) v ts := by
 have hk : Frm (fun b => b = g) w (w.setCell ⟨g, o, none⟩ u) := Frm.setCells (X := fun b => b = g) (Frm.refl _ w) (g := g) (fun _ => rfl) [u] o
 exact hk.own h (fun b hb => h.apart hB hT b hb)
theorem RowT.cells {B : Nat} {w : World} {v : Value} {ts : List ByteArray} (h : RowT B w v ts) : ∃ A c, v = .slice A ts.length c ∧ ts.length ≤ c ∧ c ≤ maxLen ∧ (0 < ts.length → ∃ b off, A = some ⟨b, off, none⟩ ∧ b < w.heap.size ∧ ∀ (k : Nat) (t : ByteArray), ts[k]? = some t → w.cell? ⟨b, off + k, none⟩ = some (.string t)) := by
 have h0 := h
 rcases h0.2 with ⟨h1, h2⟩ | ⟨g, cap, cur, hv, hg, hh, hn, hm, hrest⟩
 · exact ⟨none, 0, by rw [h1, h2], by omega, Nat.zero_le _, fun h => absurd h (by omega)⟩
 · refine ⟨_, cap, hv, hn, hm, fun hpos => ?_⟩
   have hr := Reads.of_own (A := some ⟨g, 0, none⟩) (c := cap) (by rw [← hv]; exact h)
   obtain ⟨b, off, e, hb, hc⟩ := hr.2 hpos
   refine ⟨b, off, e, hb, fun k t hk => ?_⟩
   have := hc (k * 1 + 0) (.string t) (by rw [flat_at sone 1 sone_length ts k 0 t hk (by omega)]; rfl)
   rwa [Nat.mul_one, Nat.add_zero] at this
def brkCs (b : BrokerD) (ve vr vh v1 v2 : Value) : List Value := [.int .i64 b.width, ve, vr, vh, .int .i64 b.sealed.leaves.size, v1, .int .i64 b.sealed.taken.size, v2, .int .i64 b.sealed.head.number, .int .i64 b.sealed.head.size, .string b.sealed.head.root, .int .i64 b.sealed.head.taken, .string b.sealed.head.takenRoot]
structure BRows (K : Nat) (w : World) (b : BrokerD) (ve vr vh v1 v2 : Value) : Prop where
 e : w.ownsRow K 130 5 ve b.log.entries.length (b.log.entries.flatMap EntryD.cells)
 r : w.ownsRow K 92 3 vr b.receipts.length (b.receipts.flatMap ReceiptD.cells)
 h : w.ownsRow K 33 5 vh b.heads.length (b.heads.flatMap HeadD.cells)
 p : RowT K w v1 b.sealed.leaves.peaks
 q : RowT K w v2 b.sealed.taken.peaks
theorem BRows.ext {K : Nat} {w w' : World} {b : BrokerD} {ve vr vh v1 v2 : Value} (h : BRows K w b ve vr vh v1 v2) (he : Ext w w') : BRows K w' b ve vr vh v1 v2 :=
 ⟨ownsRow_ext h.e he, ownsRow_ext h.r he, ownsRow_ext h.h he, RowT.ext h.p he, RowT.ext h.q he⟩
def noB : BrokerD := ⟨0, ⟨[]⟩, [], [], ⟨⟨0, []⟩, ⟨0, []⟩, hz⟩⟩
theorem BRows.zero (K : Nat) (w : World) : BRows K w noB (.slice none 0 0) (.slice none 0 0) (.slice none 0 0) (.slice none 0 0) (.slice none 0 0) :=
 ⟨World.ownsRow_nil _ _ _ _, World.ownsRow_nil _ _ _ _, World.ownsRow_nil _ _ _ _, World.ownsRow_nil _ _ _ _, World.ownsRow_nil _ _ _ _⟩
def dmgW (L : List (Nat × Nat)) : List WriteD := L.map fun x => ⟨(x.1 : Int), (x.2 : Int), ⟨#[]⟩⟩
def reBB (n : Int) (l : List ByteArray) : BrokerD := if reCode n l = 0 then reB n l else noB
def reW (n : Int) (l : List ByteArray) : List WriteD := if reCode n l = 0 then dmgW (dmgs 0 l) else []
def ReAns (n : Int) (l : List ByteArray) (w : World) (e : Ending) (w' : World) : Prop :=
 ∃ ve vr vh v1 v2 vw, e = .returned (.tuple #[.agg (brkCs (reBB n l) ve vr vh v1 v2).toArray, vw, .int .i64 (reCode n l : Int)]) ∧ BRows w.heap.size w' (reBB n l) ve vr vh v1 v2 ∧ (∀ x, v1.ownBlock = some x → v2.ownBlock ≠ some x) ∧
  w'.ownsRow w.heap.size 79 3 vw (reW n l).length ((reW n l).flatMap WriteD.cells) ∧ Ext w w'
theorem ReAns.bad {n : Int} {l : List ByteArray} {w w' : World} {e : Ending} {vw : Value} {k : Nat} (hk : reCode n l = k) (h0 : k ≠ 0) (he : e = .returned (.tuple #[.agg #[.int .i64 0, .slice none 0 0, .slice none 0 0, .slice none 0 0, .int .i64 0, .slice none 0 0, .int .i64 0, .slice none 0 0, .int .i64 0, .int .i64 0, .string ⟨#[]⟩, .int .i64 0, .string ⟨#[]⟩], vw, .int .i64 (k : Int)])) (ho : w'.ownsRow w.heap.size 79 3 vw 0 []) (hx : Ext w w') : ReAns n l w e w' := by
 have h1 : reBB n l = noB := by rw [reBB, hk, if_neg h0]
 have h2 : reW n l = [] := by rw [reW, hk, if_neg h0]
 refine ⟨.slice none 0 0, .slice none 0 0, .slice none 0 0, .slice none 0 0, .slice none 0 0, vw, ?_, ?_, (fun x h => by cases h), ?_, hx⟩
 · rw [he, h1, hk]; rfl
 · rw [h1]; exact BRows.zero _ _
 · rw [h2]; exact ho
theorem re1 {n : Int} {l : List ByteArray} (h : (inR n 1 32 && diskOk l) = false) : reCode n l = 1 := by unfold reCode; rw [h]; rfl
theorem re2 {n : Int} {l : List ByteArray} (h : (inR n 1 32 && diskOk l) = true) (h1 : ((filesOf l 0).all rlImpl && logOk (reB0 n l).log.entries) = false) : reCode n l = 2 := by unfold reCode; rw [h, h1]; rfl
theorem re3 {n : Int} {l : List ByteArray} (h : (inR n 1 32 && diskOk l) = true) (h1 : ((filesOf l 0).all rlImpl && logOk (reB0 n l).log.entries) = true) (h2 : ((filesOf l 2).all rrImpl && recsOk (reB0 n l).receipts) = false) : reCode n l = 3 := by unfold reCode; rw [h, h1, h2]; rfl
theorem re4 {n : Int} {l : List ByteArray} (h : (inR n 1 32 && diskOk l) = true) (h1 : ((filesOf l 0).all rlImpl && logOk (reB0 n l).log.entries) = true) (h2 : ((filesOf l 2).all rrImpl && recsOk (reB0 n l).receipts) = true) (h3 : ((filesOf l 1).all (hrImpl n) && brkParts (reB0 n l)) = false) : reCode n l = 4 := by unfold reCode; rw [h, h1, h2, h3]; rfl
def RowsIn (K : Nat) (w : World) (L : List (Nat × Nat × Value × Nat × List Value)) : Prop := ∀ x ∈ L, w.ownsRow K x.1 x.2.1 x.2.2.1 x.2.2.2.1 x.2.2.2.2
theorem RowsIn.nil (K : Nat) (w : World) : RowsIn K w [] := fun x h => by cases h
theorem RowsIn.cons {K : Nat} {w : World} {L : List (Nat × Nat × Value × Nat × List Value)} {e s n : Nat} {v : Value} {xs : List Value} (h : w.ownsRow K e s v n xs) (k : RowsIn K w L) : RowsIn K w ((e, s, v, n, xs) :: L) := fun x hx => by
 rcases List.mem_cons.1 hx with rfl | hx
 · exact h
 · exact k x hx
theorem RowsIn.ext {K : Nat} {w w' : World} {L : List (Nat × Nat × Value × Nat × List Value)} (h : RowsIn K w L) (he : Ext w w') : RowsIn K w' L := fun x hx => ownsRow_ext (h x hx) he
theorem RowsIn.head {K : Nat} {w : World} {L : List (Nat × Nat × Value × Nat × List Value)} {e s n : Nat} {v : Value} {xs : List Value} (h : RowsIn K w ((e, s, v, n, xs) :: L)) : w.ownsRow K e s v n xs := h _ (List.mem_cons_self ..)
theorem own_ne {w : World} {K e size n G t : Nat} {v : Value} {xs : List Value} {cs : Array Value} (h : w.ownsRow K e size v n xs) (hb : Blk w G t cs) (ht : t ≠ e) : ∀ x, v.ownBlock = some x → x ≠ G := by
 intro x hx hG
 subst hG
 rcases h.2 with ⟨rfl, _⟩ | ⟨g, cap, cur, rfl, hg, hh, _⟩
 · cases hx
 · simp [Value.ownBlock] at hx
   subst hx
   have hb' : w.heap[g]? = some (.cells cs t (0, 0)) := hb
   rw [hh] at hb'
   simp at hb'
   exact ht hb'.2.symm
theorem own_apart {w : World} {K e size n K' e' size' n' : Nat} {v v' : Value} {xs xs' : List Value} (h : w.ownsRow K e size v n xs) (h' : w.ownsRow K' e' size' v' n' xs') (ht : e ≠ e') : ∀ x, v.ownBlock = some x → v'.ownBlock ≠ some x := by
 intro x hx hx'
 rcases h.2 with ⟨rfl, _⟩ | ⟨g, cap, cur, rfl, hg, hh, _⟩
 · cases hx
 · rcases h'.2 with ⟨rfl, _⟩ | ⟨g', cap', cur', rfl, hg', hh', _⟩
   · cases hx'
   · simp [Value.ownBlock] at hx hx'
     subst hx; subst hx'
     rw [hh] at hh'
     simp at hh'
     exact ht hh'.2
theorem RowsIn.put {K G T : Nat} {w : World} {L : List (Nat × Nat × Value × Nat × List Value)} {cc : Array Value} (h : RowsIn K w L) (hb : Blk w G T cc) (hT : ∀ x ∈ L, T ≠ x.1) (vs : List Value) (o : Nat) : RowsIn K (w.setCells G o vs) L := fun x hx => by
 have hf := Frm.setCells (Frm.refl (fun b => b = G) w) (g := G) (fun _ => rfl) vs o
 exact hf.own (h x hx) (fun y hy => own_ne (h x hx) hb (hT x hx) y hy)
theorem slf_at {α : Type} {f : α → List Value} {size B : Nat} {t : TypeId} {w : World} {A : Option Addr} {c : Nat} {l : List α} (h : w.ownsRow B t size (.slice A l.length c) l.length (l.flatMap f)) : SlF AnyB f size w A l c := by
 obtain ⟨A', c', e, s⟩ := slf_own h
 cases e
 exact s.any
theorem RowT.ofBase {B K : Nat} {w : World} {v : Value} {ts : List ByteArray} (h : RowT B w v ts) (hK : K ≤ B) : RowT K w v ts := ownsRow_base h hK
end Go.Proofs.YthnpdoadmglipaaGreat

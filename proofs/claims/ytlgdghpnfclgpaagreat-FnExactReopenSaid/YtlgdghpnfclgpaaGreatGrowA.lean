/-
  What Reopen answers with; rows of the call's own kept together. Written by program (gen_reopen3.py). No walk, no condition.
  A range grows by leaves; its root; the program: walks. No condition.
-/
import Derived.Test.YtlgdghpnfclgpaaGreatNodeW
import Derived.Test.YtlgdghpnfclgpaaGreatGrowB
namespace Go.Proofs.YtlgdghpnfclgpaaGreat
set_option linter.unusedSimpArgs false
open Go.RowKit
set_option linter.unusedVariables false
def brkCs (b : BrokerD) (ve vr vh v1 v2 : Value) : List Value := [.int .i64 b.width, ve, vr, vh, .int .i64 b.sealed.leaves.size, v1, .int .i64 b.sealed.taken.size, v2, .int .i64 b.sealed.head.number, .int .i64 b.sealed.head.size, .string b.sealed.head.root, .int .i64 b.sealed.head.taken, .string b.sealed.head.takenRoot]
structure BRows (K : Nat) (w : World) (b : BrokerD) (ve vr vh v1 v2 : Value) : Prop where
 e : w.ownsRow K 46 5 ve b.log.entries.length (b.log.entries.flatMap EntryD.cells)
 r : w.ownsRow K 77 3 vr b.receipts.length (b.receipts.flatMap ReceiptD.cells)
 h : w.ownsRow K 55 5 vh b.heads.length (b.heads.flatMap HeadD.cells)
 p : RowT K w v1 b.sealed.leaves.peaks
 q : RowT K w v2 b.sealed.taken.peaks
theorem BRows.ext {K : Nat} {w w' : World} {b : BrokerD} {ve vr vh v1 v2 : Value} (h : BRows K w b ve vr vh v1 v2) (he : Ext w w') : BRows K w' b ve vr vh v1 v2 :=
 ⟨ownsRow_ext h.e he, ownsRow_ext h.r he, ownsRow_ext h.h he, RowT.ext h.p he, RowT.ext h.q he⟩
def noB : BrokerD := ⟨0, ⟨[]⟩, [], [], ⟨⟨0, []⟩, ⟨0, []⟩, hz⟩⟩
theorem BRows.zero (K : Nat) (w : World) : BRows K w noB (.slice none 0 0) (.slice none 0 0) (.slice none 0 0) (.slice none 0 0) (.slice none 0 0) :=
 ⟨World.ownsRow_nil _ _ _ _, World.ownsRow_nil _ _ _ _, World.ownsRow_nil _ _ _ _, World.ownsRow_nil _ _ _ _, World.ownsRow_nil _ _ _ _⟩
def dmgW (L : List (Nat × Nat)) : List WriteD := L.map fun x => ⟨(x.1 : Int), (x.2 : Int), ⟨#[]⟩⟩
theorem dmgW_append (a b : List (Nat × Nat)) : dmgW (a ++ b) = dmgW a ++ dmgW b := List.map_append
def reBB (n : Int) (l : List ByteArray) : BrokerD := if reCode n l = 0 then reB n l else noB
def reW (n : Int) (l : List ByteArray) : List WriteD := if reCode n l = 0 then dmgW (dmgs 0 l) else []
def ReAns (n : Int) (l : List ByteArray) (w : World) (e : Ending) (w' : World) : Prop :=
 ∃ ve vr vh v1 v2 vw, e = .returned (.tuple #[.agg (brkCs (reBB n l) ve vr vh v1 v2).toArray, vw, .int .i64 (reCode n l : Int)]) ∧ BRows w.heap.size w' (reBB n l) ve vr vh v1 v2 ∧ (∀ x, v1.ownBlock = some x → v2.ownBlock ≠ some x) ∧
  w'.ownsRow w.heap.size 112 3 vw (reW n l).length ((reW n l).flatMap WriteD.cells) ∧ Ext w w'
theorem ReAns.bad {n : Int} {l : List ByteArray} {w w' : World} {e : Ending} {vw : Value} {k : Nat} (hk : reCode n l = k) (h0 : k ≠ 0) (he : e = .returned (.tuple #[.agg #[.int .i64 0, .slice none 0 0, .slice none 0 0, .slice none 0 0, .int .i64 0, .slice none 0 0, .int .i64 0, .slice none 0 0, .int .i64 0, .int .i64 0, .string ⟨#[]⟩, .int .i64 0, .string ⟨#[]⟩], vw, .int .i64 (k : Int)])) (ho : w'.ownsRow w.heap.size 112 3 vw 0 []) (hx : Ext w w') : ReAns n l w e w' := by
 have h1 : reBB n l = noB := by rw [reBB, hk, if_neg h0]
 have h2 : reW n l = [] := by rw [reW, hk, if_neg h0]
 refine ⟨.slice none 0 0, .slice none 0 0, .slice none 0 0, .slice none 0 0, .slice none 0 0, vw, ?_, ?_, (fun x h => by cases h), ?_, hx⟩
 · rw [he, h1, hk]; rfl
 · rw [h1]; exact BRows.zero _ _
 · rw [h2]; exact ho
theorem ReAns.good {n : Int} {l : List ByteArray} {w w' : World} {e : Ending} {ve vr vh v1 v2 vw : Value} (hk : reCode n l = 0) (he : e = .returned (.tuple #[.agg (brkCs (reB n l) ve vr vh v1 v2).toArray, vw, .int .i64 0])) (hb : BRows w.heap.size w' (reB n l) ve vr vh v1 v2) (ha : ∀ x, v1.ownBlock = some x → v2.ownBlock ≠ some x)
 (ho : w'.ownsRow w.heap.size 112 3 vw (dmgW (dmgs 0 l)).length ((dmgW (dmgs 0 l)).flatMap WriteD.cells)) (hx : Ext w w') : ReAns n l w e w' := by
 have h1 : reBB n l = reB n l := by rw [reBB, hk, if_pos rfl]
 have h2 : reW n l = dmgW (dmgs 0 l) := by rw [reW, hk, if_pos rfl]
 refine ⟨ve, vr, vh, v1, v2, vw, ?_, ?_, ha, ?_, hx⟩
 · rw [he, h1, hk]; rfl
 · rw [h1]; exact hb
 · rw [h2]; exact ho
theorem re1 {n : Int} {l : List ByteArray} (h : (inR n 1 32 && diskOk l) = false) : reCode n l = 1 := by unfold reCode; rw [h]; rfl
theorem re2 {n : Int} {l : List ByteArray} (h : (inR n 1 32 && diskOk l) = true) (h1 : ((filesOf l 0).all rlImpl && logOk (reB0 n l).log.entries) = false) : reCode n l = 2 := by unfold reCode; rw [h, h1]; rfl
theorem re3 {n : Int} {l : List ByteArray} (h : (inR n 1 32 && diskOk l) = true) (h1 : ((filesOf l 0).all rlImpl && logOk (reB0 n l).log.entries) = true) (h2 : ((filesOf l 2).all rrImpl && recsOk (reB0 n l).receipts) = false) : reCode n l = 3 := by unfold reCode; rw [h, h1, h2]; rfl
theorem re4 {n : Int} {l : List ByteArray} (h : (inR n 1 32 && diskOk l) = true) (h1 : ((filesOf l 0).all rlImpl && logOk (reB0 n l).log.entries) = true) (h2 : ((filesOf l 2).all rrImpl && recsOk (reB0 n l).receipts) = true) (h3 : ((filesOf l 1).all (hrImpl n) && brkParts (reB0 n l)) = false) : reCode n l = 4 := by unfold reCode; rw [h, h1, h2, h3]; rfl
theorem re0 {n : Int} {l : List ByteArray} (h : (inR n 1 32 && diskOk l) = true) (h1 : ((filesOf l 0).all rlImpl && logOk (reB0 n l).log.entries) = true) (h2 : ((filesOf l 2).all rrImpl && recsOk (reB0 n l).receipts) = true) (h3 : ((filesOf l 1).all (hrImpl n) && brkParts (reB0 n l)) = true) : reCode n l = 0 := by unfold reCode; rw [h, h1, h2, h3]; rfl
theorem disk_three {l : List ByteArray} (h : diskOk l = true) : l.length = 3 := by
 simp only [diskOk, Bool.and_eq_true, beq_iff_eq] at h
 exact h.1
def RowsIn (K : Nat) (w : World) (L : List (Nat × Nat × Value × Nat × List Value)) : Prop := ∀ x ∈ L, w.ownsRow K x.1 x.2.1 x.2.2.1 x.2.2.2.1 x.2.2.2.2
theorem RowsIn.nil (K : Nat) (w : World) : RowsIn K w [] := fun x h => by cases h
theorem RowsIn.cons {K : Nat} {w : World} {L : List (Nat × Nat × Value × Nat × List Value)} {e s n : Nat} {v : Value} {xs : List Value} (h : w.ownsRow K e s v n xs) (k : RowsIn K w L) : RowsIn K w ((e, s, v, n, xs) :: L) := fun x hx => by
 rcases List.mem_cons.1 hx with rfl | hx
 · exact h
 · exact k x hx
theorem RowsIn.ext {K : Nat} {w w' : World} {L : List (Nat × Nat × Value × Nat × List Value)} (h : RowsIn K w L) (he : Ext w w') : RowsIn K w' L := fun x hx => ownsRow_ext (h x hx) he
theorem RowsIn.head {K : Nat} {w : World} {L : List (Nat × Nat × Value × Nat × List Value)} {e s n : Nat} {v : Value} {xs : List Value} (h : RowsIn K w ((e, s, v, n, xs) :: L)) : w.ownsRow K e s v n xs := h _ (List.mem_cons_self ..)
theorem RowsIn.tail {K : Nat} {w : World} {L : List (Nat × Nat × Value × Nat × List Value)} {x : Nat × Nat × Value × Nat × List Value} (h : RowsIn K w (x :: L)) : RowsIn K w L := fun y hy => h y (List.mem_cons_of_mem _ hy)
theorem own_ne {w : World} {K e size n G t : Nat} {v : Value} {xs : List Value} {cs : Array Value} (h : w.ownsRow K e size v n xs) (hb : Blk w G t cs) (ht : t ≠ e) : ∀ x, v.ownBlock = some x → x ≠ G := by
 intro x hx hG
 subst hG
 rcases h.2 with ⟨rfl, _⟩ | ⟨g, cap, cur, rfl, hg, hh, _⟩
 · cases hx
 · simp [Value.ownBlock] at hx
   subst hx
   have hb' : w.heap[g]? = some (.cells cs t (0, 0)) := hb
   rw [hh] at hb'
   simp at hb'
   exact ht hb'.2.symm
theorem own_apart {w : World} {K e size n K' e' size' n' : Nat} {v v' : Value} {xs xs' : List Value} (h : w.ownsRow K e size v n xs) (h' : w.ownsRow K' e' size' v' n' xs') (ht : e ≠ e') : ∀ x, v.ownBlock = some x → v'.ownBlock ≠ some x := by
 intro x hx hx'
 rcases h.2 with ⟨rfl, _⟩ | ⟨g, cap, cur, rfl, hg, hh, _⟩
 · cases hx
 · rcases h'.2 with ⟨rfl, _⟩ | ⟨g', cap', cur', rfl, hg', hh', _⟩
   · cases hx'
   · simp [Value.ownBlock] at hx hx'
     subst hx; subst hx'
     rw [hh] at hh'
     simp at hh'
     exact ht hh'.2
theorem RowsIn.put {K G T : Nat} {w : World} {L : List (Nat × Nat × Value × Nat × List Value)} {cc : Array Value} (h : RowsIn K w L) (hb : Blk w G T cc) (hT : ∀ x ∈ L, T ≠ x.1) (vs : List Value) (o : Nat) : RowsIn K (w.setCells G o vs) L := fun x hx => by
 have hf := Frm.setCells (Frm.refl (fun b => b = G) w) (g := G) (fun _ => rfl) vs o
 exact hf.own (h x hx) (fun y hy => own_ne (h x hx) hb (hT x hx) y hy)
theorem RowsIn.frm {K : Nat} {w w' : World} {L : List (Nat × Nat × Value × Nat × List Value)} {K' e s n : Nat} {v : Value} {xs : List Value} (h : RowsIn K w L) (ho : w.ownsRow K' e s v n xs) (hf : Frm (fun b => v.ownBlock = some b) w w') (hT : ∀ x ∈ L, x.1 ≠ e) : RowsIn K w' L := fun x hx =>
 hf.own (h x hx) (fun y hy e2 => own_apart (h x hx) ho (hT x hx) y hy e2)
theorem slf_at {α : Type} {f : α → List Value} {size B : Nat} {t : TypeId} {w : World} {A : Option Addr} {c : Nat} {l : List α} (h : w.ownsRow B t size (.slice A l.length c) l.length (l.flatMap f)) : SlF AnyB f size w A l c := by
 obtain ⟨A', c', e, s⟩ := slf_own h
 cases e
 exact s.any
theorem RowT.ofBase {B K : Nat} {w : World} {v : Value} {ts : List ByteArray} (h : RowT B w v ts) (hK : K ≤ B) : RowT K w v ts := ownsRow_base h hK
theorem take_set (vs : List Value) (k j : Nat) (u v : Value) (hk : k < vs.length) : (vs.take k ++ [v] ++ vs.drop (k + 1)).getD j u = if j = k then v else vs.getD j u := by
 have : vs.take k ++ [v] ++ vs.drop (k + 1) = vs.set k v := by rw [List.set_eq_take_append_cons_drop, if_pos hk]; simp
 rw [this]
 simp only [List.getD_eq_getElem?_getD, List.getElem?_set]
 by_cases h : k = j
 · subst h; simp [hk]
 · rw [if_neg h, if_neg (fun e => h e.symm)]
end Go.Proofs.YtlgdghpnfclgpaaGreat
namespace Go.Proofs.YtlgdghpnfclgpaaGreat
set_option linter.unusedSimpArgs false
open Go.RowKit
set_option linter.unusedVariables false
theorem set_same {cs : Array Value} {o : Nat} {v : Value} (h : cs[o]? = some v) : cs.setIfInBounds o v = cs := by
 obtain ⟨ho, rfl⟩ := Array.getElem?_eq_some_iff.1 h
 apply Array.ext_getElem?
 intro i
 rw [Array.getElem?_setIfInBounds]
 split
 · rename_i e; subst e; exact (Array.getElem?_eq_getElem ho).symm
 · rfl
theorem set_twice (cs : Array Value) (o : Nat) (a b a' b' : Value) : (((cs.setIfInBounds o a).setIfInBounds (o + 1) b).setIfInBounds o a').setIfInBounds (o + 1) b' = (cs.setIfInBounds o a').setIfInBounds (o + 1) b' := by
 rw [Array.setIfInBounds_comm (xs := cs.setIfInBounds o a) (i := o + 1) (j := o) _ _ (by omega), Array.setIfInBounds_setIfInBounds, Array.setIfInBounds_setIfInBounds]
theorem SlF.frm {α : Type} {p : Nat → Prop} {f : α → List Value} {size : Nat} {w w' : World} {A : Option Addr} {l : List α} {c : Nat} {X : Nat → Prop} (h : SlF p f size w A l c) (hf : Frm X w w') (hp : ∀ b, b < w.heap.size → p b → ¬ X b) : SlF p f size w' A l c := h.keep (hf.keep hp)
theorem SlF.here {α : Type} {p : Nat → Prop} {f : α → List Value} {size : Nat} {w : World} {A : Option Addr} {l : List α} {c : Nat} (h : SlF p f size w A l c) : SlF (fun b => p b ∧ b < w.heap.size) f size w A l c :=
 ⟨h.le, h.cap, h.reads, fun hn a e => ⟨h.low hn a e, by obtain ⟨b, off, e2, hb, _⟩ := h.reads.2 hn; rw [e] at e2; cases e2; exact hb⟩⟩
set_option maxHeartbeats 4000000 in
set_option maxRecDepth 100000 in
theorem growAll_any (wd : Int) (hwd : inR wd 1 32 = true) (B g T o n : Nat) (cs : Array Value) (v : Value) (s : List ByteArray) (A : Option Addr) (c : Nat) (l : List ByteArray) (w : World)
 (hB : Blk w g T cs) (hT : T ≠ 9) (h0 : cs[o]? = some (.int .i64 (n : Int))) (h1 : cs[o + 1]? = some v) (hown : RowT B w v s.reverse) (hBw : B ≤ w.heap.size)
 (hs : ∀ x ∈ s, WdT wd x) (hlen : s.length = pc n) (hn : n ≤ 50000) (hl : l.length ≤ 50000)
 (hr : SlF (fun b => b ≠ g ∧ v.ownBlock ≠ some b) sone 1 w A l c) (hls : ∀ x ∈ l, WdT wd x) :
 Calls Tryz.prog 214 #[.pointer (some ⟨g, o, none⟩), .int .i64 wd, .slice A l.length c] w fun e w' => ∃ m v', e = .returned (.int .i64 m) ∧ Blk w' g T ((cs.setIfInBounds o (.int .i64 ((n + l.length : Nat) : Int))).setIfInBounds (o + 1) v') ∧
  RowT B w' v' (growL (ndB wd) n s l).reverse ∧ Frm (fun b => b = g ∨ v.ownBlock = some b) w w' ∧ Moved v v' w.heap.size := by
 have ho : o + 1 < cs.size := (Array.getElem?_eq_some_iff.1 h1).1
 have HR := Lib.hid hr.here; have Hs := Lib.hid hs; have Hlen := Lib.hid hlen; have Hls := Lib.hid hls
 have HB := Lib.hid (show Blk w g T ((cs.setIfInBounds o (.int .i64 ((n + 0 : Nat) : Int))).setIfInBounds (o + 1) v) by
  rw [set_same (o := o + 1) (by rw [Array.getElem?_setIfInBounds_ne (by omega)]; exact h1), Nat.add_zero, set_same h0]; exact hB)
 have HO := Lib.hid hown
 clear hB h0 h1 hown hs hlen hr hls
 go_enter Tryz.func214, Tryz.ntmps214
 go_wp2_with fail
 go_loopw [7, 12] (fun mk i wr => ∃ (k : Nat) (mk' : Int) (vr : Value), k ≤ l.length ∧ i = .int .i64 (k : Int) ∧ mk = .int .i64 mk' ∧ Blk wr g T ((cs.setIfInBounds o (.int .i64 ((n + k : Nat) : Int))).setIfInBounds (o + 1) vr) ∧
  RowT B wr vr (growL (ndB wd) n s (l.take k)).reverse ∧ Frm (fun b => b = g ∨ v.ownBlock = some b) w wr ∧ Moved v vr w.heap.size) (fun _ i _ => l.length - (intOf i).toNat)
 case atStart => exact ⟨0, 0, v, Nat.zero_le _, rfl, rfl, HB.out, HO.out, Frm.refl _ w, Moved.refl _ _⟩
 case round =>
  clear HB HO
  obtain ⟨k, mk', vr, hk, rfl, rfl, hB, hO, hF, hM⟩ := hrel
  have HB := Lib.hid hB; have HO := Lib.hid hO; have HF := Lib.hid hF; have HM := Lib.hid hM
  clear hB hO hF hM
  by_cases hlt : k < l.length
  case neg =>
   obtain rfl : k = l.length := by omega
   go_wp2_with fail
   go_ret
   have := HO.out
   rw [List.take_length] at this
   exact ⟨_, vr, rfl, HB.out, this, HF.out, HM.out⟩
  have hr2 := HR.out.frm HF.out (fun b hb hp hx => by
   rcases hx with e | e
   · exact hp.1.1 e
   · exact hp.1.2 e)
  obtain ⟨b, off, hA, hb, hc⟩ := Reads.at_ hr2.reads (k := k) hlt
  obtain ⟨d, hd⟩ : ∃ d, d = l[k] := ⟨_, rfl⟩
  have hdl : l[k]? = some d := by rw [hd]; exact List.getElem?_eq_getElem hlt
  have c0 := hc 0 _ (flat_at _ 1 sone_length l k 0 _ hdl (by omega))
  rw [Nat.add_zero, Nat.mul_one] at c0
  have Hd := Lib.hid hd
  have hwl : WdT wd d := by rw [hd]; exact Hls.out _ (List.getElem_mem hlt)
  have HWL := Lib.hid hwl
  have C := grow_any wd hwd B g T o (n + k) _ vr (growL (ndB wd) n s (l.take k)) d wr HB.out hT (by rw [Array.getElem?_setIfInBounds_ne (by omega), Array.getElem?_setIfInBounds_self]; exact if_pos (by omega)) (by rw [Array.getElem?_setIfInBounds_self]; exact if_pos (by simpa using ho)) HO.out (Nat.le_trans hBw HF.out.size)
   (growL_all (ndB_wd hwd) _ _ _ Hs.out (fun x hx => Hls.out x (List.mem_of_mem_take hx))) hwl (by rw [growL_len (ndB wd) _ _ _ Hlen.out, List.length_take, Nat.min_eq_left hk]) (by omega)
  have CC := Lib.hid C
  subst hA
  clear hc hd hdl hr2 hwl C
  go_wp2_with fail
  refine CC.out.mono ?_
  rintro e w2 ⟨m2, v2, rfl, hB2, hR2, hF2, hM2⟩
  rw [set_twice] at hB2
  have HB2 := Lib.hid hB2; have HR2 := Lib.hid hR2
  have HF2 := Lib.hid (HF.out.next hF2 (fun y hy hx => by
   rcases hx with e | e
   · exact Or.inl e
   · rcases HM.out y e with h | h
     · exact Or.inr h
     · omega))
  have HM2 := Lib.hid (HM.out.trans hM2 HF.out.size)
  clear hB2 hR2 hF2 hM2 c0
  go_wp2_with fail
  go_roundw
  case rel =>
   refine ⟨k + 1, _, v2, by omega, by go_num, rfl, HB2.out, ?_, HF2.out, HM2.out⟩
   have := HR2.out
   rw [List.take_succ_eq_append_getElem hlt, growL_append, List.length_take, Nat.min_eq_left hk, growL_cons, growL_nil, ← Hd.out]
   exact this
  case measure => simp [intOf]; omega
theorem rootS_of {α : Type} (nd : α → α → α) (e : α) {ps : List α} {k : Nat} {t : α} (h : ps[k]? = some t) (hk : ps.length = k + 1) : rootS nd e ps.reverse = (ps.take k).reverse.foldl (fun r p => nd p r) t := by
 obtain ⟨hlt, rfl⟩ := List.getElem?_eq_some_iff.1 h
 have : ps = ps.take k ++ [ps[k]] := by
  conv => lhs; rw [← List.take_length (l := ps), hk, List.take_succ_eq_append_getElem hlt]
 conv => lhs; rw [this]
 rw [List.reverse_append, List.reverse_singleton, List.singleton_append, rootS]
theorem fold_next {α : Type} (nd : α → α → α) {ps : List α} {k : Nat} {t r : α} (h : ps[k]? = some t) : (ps.take (k + 1)).reverse.foldl (fun r p => nd p r) r = (ps.take k).reverse.foldl (fun r p => nd p r) (nd t r) := by
 obtain ⟨hlt, rfl⟩ := List.getElem?_eq_some_iff.1 h
 rw [List.take_succ_eq_append_getElem hlt, List.reverse_append, List.reverse_singleton, List.singleton_append, List.foldl_cons]
set_option maxHeartbeats 4000000 in
set_option maxRecDepth 100000 in
theorem root_any (wd : Int) (hwd : inR wd 1 32 = true) (z : Int) (A : Option Addr) (c : Nat) (ps : List ByteArray) (w : World) (hl : ps.length ≤ 100000) (hr : ReadsL w w.heap.size sone 1 A ps) (hs : ∀ x ∈ ps, WdT wd x) :
 Calls Tryz.prog 215 #[.agg #[.int .i64 z, .slice A ps.length c], .int .i64 wd] w fun e w' => ∃ m, e = .returned (.tuple #[.string (rootS (ndB wd) (emptyR wd) ps.reverse), .int .i64 m]) ∧ Ext w w' := by
 have K0 := Lib.hid (Blk.new w 54 #[.int .i64 z, .slice A ps.length c])
 have He := Lib.hid (Ext.new (Below.refl w.heap.size w) (.cells #[.int .i64 z, .slice A ps.length c] 54))
 obtain ⟨Fn, hFn⟩ : ∃ Fn, Fn = rootS (ndB wd) (emptyR wd) ps.reverse := ⟨_, rfl⟩
 have FF := Lib.hid hFn
 have HR := Lib.hid hr; have Hs := Lib.hid hs
 rw [← hFn]
 rcases Nat.eq_zero_or_pos ps.length with h0 | h0
 · obtain rfl := List.eq_nil_of_length_eq_zero h0
   have E := Lib.hid (show Fn = emptyR wd by rw [hFn]; rfl)
   have He := Lib.hid (show Ext w (w.alloc (.cells #[.int .i64 z, .slice A 0 c] 54)) from He.out)
   have K0 := Lib.hid (show Blk (w.alloc (.cells #[.int .i64 z, .slice A 0 c] 54)) w.heap.size 54 #[.int .i64 z, .slice A 0 c] from K0.out)
   show Calls Tryz.prog 215 #[.agg #[.int .i64 z, .slice A 0 c], .int .i64 wd] w _
   clear hFn hr hs h0 HR Hs hl
   go_enter Tryz.func215, Tryz.ntmps215
   go_wp2_with fail
   refine (emptyRoot_any wd _).mono ?_
   rintro e w1 ⟨rfl, h1⟩
   have he := He.out.next h1
   clear h1
   go_wp2_with fail
   go_ret2
   exact ⟨0, by rw [E.out]; rfl, he⟩
 obtain ⟨k, hk⟩ : ∃ k, ps.length = k + 1 := ⟨ps.length - 1, by omega⟩
 obtain ⟨b, off, rfl, hb, hc⟩ := hr.2 h0
 obtain ⟨t, ht⟩ : ∃ t, ps[k]? = some t := ⟨ps[k]'(by omega), List.getElem?_eq_getElem (by omega)⟩
 have hcell : ∀ (j : Nat) (x : ByteArray), ps[j]? = some x → w.cell? ⟨b, off + j, none⟩ = some (.string x) := fun j x hx => by
  have := hc (j * 1 + 0) (.string x) (by rw [flat_at sone 1 sone_length ps j 0 x hx (by omega)]; rfl)
  rwa [Nat.mul_one, Nat.add_zero] at this
 have c0 := hcell k t ht
 have HC := Lib.hid hcell
 have hst : WdT wd t := hs t (List.mem_of_getElem? ht)
 have ST := Lib.hid (show Fn = (ps.take k).reverse.foldl (fun r p => ndB wd p r) t by rw [hFn]; exact rootS_of _ _ ht hk)
 have HST := Lib.hid hst
 have c1 : (w.alloc (.cells #[.int .i64 z, .slice (some ⟨b, off, none⟩) ps.length c] 54)).cell? ⟨b, off + k, none⟩ = some (.string t) := (He.out.cell (p := ⟨b, off + k, none⟩) hb).trans c0
 obtain ⟨L, hL⟩ : ∃ L, L = ps.length := ⟨_, rfl⟩
 rw [← hL] at hl K0 He h0 hk c1
 rw [← hL]
 have hlL : L ≤ 9223372036854775807 := by omega
 have e1 : (L : Int) - 1 = (k : Int) := by omega
 have e2 : IntKind.i64.wrap (k : Int) = (k : Int) := IntWalk.i64_in _ (by omega)
 have hkL : k < L := by omega
 have hkL2 : k ≤ 100000 := by omega
 have e0 : ((L : Int) == 0) = false := beq_false_of_ne (by omega)
 have e0' : ¬ (L = 0) := by omega
 have HL := Lib.hid hL
 clear hFn hr hs hc hcell ht c0 hst hk hL
 go_enter Tryz.func215, Tryz.ntmps215
 go_wp2_with fail
 obtain ⟨g, hg⟩ : ∃ g, g = w.heap.size := ⟨_, rfl⟩
 rw [← hg] at K0
 rw [← hg]
 have Hg : w.heap.size ≤ g := by omega
 clear c1 hg
 go_loopw [7, 8] (fun rt i wr => ∃ (j : Nat) (r : ByteArray), j ≤ k ∧ i = .int .i64 ((j : Int) - 1) ∧ rt = .string r ∧ (ps.take j).reverse.foldl (fun r p => ndB wd p r) r = Fn ∧ WdT wd r ∧ Blk wr g 54 #[.int .i64 z, .slice (some ⟨b, off, none⟩) L c] ∧ Ext w wr) (fun _ i _ => (intOf i + 1).toNat)
 case atStart => exact ⟨k, t, Nat.le_refl _, by go_num, rfl, ST.out.symm, HST.out, K0.out, He.out⟩
 case round =>
  clear K0 He
  obtain ⟨j, r, hj, rfl, rfl, hF, hw, k0, he⟩ := hrel
  have HF := Lib.hid hF; have HW := Lib.hid hw
  obtain ⟨hcr, hfr⟩ := k0.rules
  have K0 := Lib.hid k0
  clear hF hw k0
  rcases Nat.eq_zero_or_pos j with j0 | j0
  · subst j0
    have E := Lib.hid (show r = Fn from HF.out)
    go_wp2_with fail
    go_ret2
    exact ⟨(k : Int), by rw [E.out]; rfl, he⟩
  obtain ⟨i, hi⟩ : ∃ i, j = i + 1 := ⟨j - 1, by omega⟩
  subst hi
  obtain ⟨x, hx⟩ : ∃ x, ps[i]? = some x := ⟨ps[i]'(by have := HL.out; omega), List.getElem?_eq_getElem (by have := HL.out; omega)⟩
  have c2 : wr.cell? ⟨b, off + i, none⟩ = some (.string x) := (he.cell (p := ⟨b, off + i, none⟩) hb).trans (HC.out i x hx)
  have hxs : WdT wd x := Hs.out x (List.mem_of_getElem? hx)
  have FN := Lib.hid (show (ps.take i).reverse.foldl (fun r p => ndB wd p r) (ndB wd x r) = Fn by rw [← fold_next _ hx]; exact HF.out)
  have hw2 := inR_true hwd
  have sx : x.size ≤ 1000 := by unfold WdT at hxs; omega
  have sr : r.size ≤ 1000 := by have := HW.out; unfold WdT at this; omega
  have HJ := Lib.hid (ndB_wd hwd x r hxs HW.out)
  have e3 : ((i + 1 : Nat) : Int) - 1 = (i : Int) := by omega
  have e4 : IntKind.i64.wrap (i : Int) = (i : Int) := IntWalk.i64_in _ (by omega)
  have hiL : i < L := by omega
  have d0 : decide ((0 : Int) ≤ (i : Int)) = true := decide_eq_true (by omega)
  rw [e3]
  clear hx hxs HF HW
  go_wp2_with fail
  refine (node_any wd x r _ sx sr).mono ?_
  rintro e w2 ⟨rfl, h1⟩
  replace K0 := Lib.hid (K0.out.ext h1); replace he := he.next h1
  clear h1 hcr hfr c2
  go_wp2_with fail
  go_roundw
  case rel => exact ⟨i, _, by omega, by go_num, rfl, FN.out, HJ.out, K0.out, he⟩
  case measure => simp [intOf]
end Go.Proofs.YtlgdghpnfclgpaaGreat

/-
  MarkOwnWrite; MarkSS; OwnMark; MarkRowB; BrkEn2; BrAns; ConvWrite; BVal; TextsP; PubP; TakeP; SealP: No condition.
-/
import Derived.Test.YtgeengkdgdjcjaaGreatMarkWrite
import Derived.Test.YtgeengkdgdjcjaaGreatLeaf
import Derived.Test.YtgeengkdgdjcjaaGreatStoreL
import Derived.Test.YtgeengkdgdjcjaaGreatWords
import Derived.StillTailTactics
import Derived.Test.YtgeengkdgdjcjaaGreatBroker1
import Derived.Test.YtgeengkdgdjcjaaGreatHashes
import Derived.Test.YtgeengkdgdjcjaaGreatReopen1
import Derived.Test.YtgeengkdgdjcjaaGreatLogs
namespace Go.Proofs.YtgeengkdgdjcjaaGreat
set_option linter.unusedSimpArgs false
open Go.RowKit
set_option linter.unusedVariables false

def mkd (cs : Array Value) (k : Nat) : Nat → Array Value
 | 0 => cs
 | i + 1 => (mkd cs k i).setIfInBounds i (.string (markB (k + i)))
def Marked (w : World) (v : Value) (n : Nat) : Prop := (v = .slice none 0 0 ∧ n = 0) ∨ ∃ g c cs, v = .slice (some ⟨g, 0, none⟩) n c ∧ Blk w g 9 (mkd cs 1 n) ∧ n ≤ cs.size
theorem Marked.ext {w w' : World} {v : Value} {n : Nat} (h : Marked w v n) (he : Ext w w') : Marked w' v n := by
 rcases h with h | ⟨g, c, cs, h1, h2, h3⟩
 · exact .inl h
 · exact .inr ⟨g, c, cs, h1, h2.ext he, h3⟩
def InBlock (v : Value) : Nat → Prop := fun b => v.ownBlock = some b
def SMk (w : World) (v : Value) (k n : Nat) : Prop := (v = .slice none 0 0 ∧ n = 0) ∨ ∃ g c cs, v = .slice (some ⟨g, 0, none⟩) n c ∧ Blk w g 9 (mkd cs k n) ∧ n ≤ cs.size
theorem SMk.ext {w w' : World} {v : Value} {k n : Nat} (h : SMk w v k n) (he : Ext w w') : SMk w' v k n := by
 rcases h with h | ⟨g, c, cs, h1, h2, h3⟩
 · exact .inl h
 · exact .inr ⟨g, c, cs, h1, h2.ext he, h3⟩
theorem SMk.frm {w w' : World} {v : Value} {k n : Nat} {X : Nat → Prop} (h : SMk w v k n) (he : Frm X w w') (hX : ∀ b, v.ownBlock = some b → ¬ X b) : SMk w' v k n := by
 rcases h with h | ⟨g, c, cs, rfl, h2, h3⟩
 · exact .inl h
 · exact .inr ⟨g, c, cs, rfl, he.blk h2 (hX g rfl), h3⟩
def FMk {α : Type} (f : α → List Value) (size : Nat) (mk : Nat → Nat → List α) (w : World) (v : Value) (k m : Nat) : Prop := ∃ A c, v = .slice A m c ∧ SlF (InBlock v) f size w A (mk k m) c
section
variable {α : Type} {f : α → List Value} {size : Nat} {mk : Nat → Nat → List α}
theorem FMk.ext {w w' : World} {v : Value} {k m : Nat} (h : FMk f size mk w v k m) (he : Ext w w') : FMk f size mk w' v k m := by obtain ⟨A, c, h1, h2⟩ := h; exact ⟨A, c, h1, h2.ext he⟩
theorem FMk.frm {w w' : World} {v : Value} {k m : Nat} {X : Nat → Prop} (h : FMk f size mk w v k m) (he : Frm X w w') (hX : ∀ b, v.ownBlock = some b → ¬ X b) : FMk f size mk w' v k m := by
 obtain ⟨A, c, h1, h2⟩ := h; exact ⟨A, c, h1, h2.keep (he.keep (fun b _ hb => hX b hb))⟩
end
structure BMk (w : World) (b : BrokerD) (ve vr vh v1 v2 : Value) (k : Nat) : Prop where
 e : FMk EntryD.cells 5 EntryD.mkL w ve k b.log.entries.length
 r : FMk ReceiptD.cells 3 ReceiptD.mkL w vr (k + b.log.entries.length * 5) b.receipts.length
 h : FMk HeadD.cells 5 HeadD.mkL w vh (k + b.log.entries.length * 5 + b.receipts.length * 3) b.heads.length
 p : SMk w v1 (k + b.log.entries.length * 5 + b.receipts.length * 3 + b.heads.length * 5) b.sealed.leaves.peaks.length
 q : SMk w v2 (k + b.log.entries.length * 5 + b.receipts.length * 3 + b.heads.length * 5 + b.sealed.leaves.peaks.length) b.sealed.taken.peaks.length
theorem BMk.ext {w w' : World} {b : BrokerD} {ve vr vh v1 v2 : Value} {k : Nat} (h : BMk w b ve vr vh v1 v2 k) (he : Ext w w') : BMk w' b ve vr vh v1 v2 k := ⟨h.e.ext he, h.r.ext he, h.h.ext he, h.p.ext he, h.q.ext he⟩
def BBlk (ve vr vh v1 v2 : Value) (x : Nat) : Prop := InBlock ve x ∨ InBlock vr x ∨ InBlock vh x ∨ InBlock v1 x ∨ InBlock v2 x
theorem BMk.frm {w w' : World} {b : BrokerD} {ve vr vh v1 v2 : Value} {k : Nat} {X : Nat → Prop} (h : BMk w b ve vr vh v1 v2 k) (he : Frm X w w') (hX : ∀ x, BBlk ve vr vh v1 v2 x → ¬ X x) : BMk w' b ve vr vh v1 v2 k :=
 ⟨h.e.frm he (fun x hx => hX x (.inl hx)), h.r.frm he (fun x hx => hX x (.inr (.inl hx))), h.h.frm he (fun x hx => hX x (.inr (.inr (.inl hx)))), h.p.frm he (fun x hx => hX x (.inr (.inr (.inr (.inl hx))))), h.q.frm he (fun x hx => hX x (.inr (.inr (.inr (.inr hx)))))⟩
def BrAns (B : BrokerD) (W : List WriteD) (c : Nat) (w : World) (e : Ending) (w' : World) : Prop :=
 ∃ ve vr vh v1 v2 vw, e = .returned (.tuple #[.agg (brkCs B ve vr vh v1 v2).toArray, vw, .int .i64 (c : Int)]) ∧ BRows w.heap.size w' B ve vr vh v1 v2 ∧ (∀ x, v1.ownBlock = some x → v2.ownBlock ≠ some x) ∧ w'.ownsRow w.heap.size 63 3 vw W.length (W.flatMap WriteD.cells) ∧ Ext w w'
theorem BrAns.bad {w w' : World} {e : Ending} {vw : Value} {k : Nat} (he : e = .returned (.tuple #[.agg #[.int .i64 0, .slice none 0 0, .slice none 0 0, .slice none 0 0, .int .i64 0, .slice none 0 0, .int .i64 0, .slice none 0 0, .int .i64 0, .int .i64 0, .string ⟨#[]⟩, .int .i64 0, .string ⟨#[]⟩], vw, .int .i64 (k : Int)])) (ho : w'.ownsRow w.heap.size 63 3 vw 0 []) (hx : Ext w w') : BrAns noB [] k w e w' :=
 ⟨_, _, _, _, _, vw, he, BRows.zero _ _, (fun x h => by cases h), ho, hx⟩
theorem ret_brk {P : Program} {fn : Func} {R : Ending → World → Prop} {a : Act} {w : World} {p u v : Tmp} {ty g t : Nat} {cs : Array Value} {d : TypeDesc} (h : fn.results = #[.cell p ty, .tmp u, .tmp v])
 (hp : a.tmps.getD p undef = .pointer (some ⟨g, 0, none⟩)) (hB : Blk w g t cs) (hu : P.underlying ty = some d) (hd : (match d with | .struct _ | .array _ _ => true | _ => false) = true) (hi : (P.info? ty).map (·.size) = some cs.size)
 (hdef : a.defers = []) (hR : R (.returned (.tuple #[.agg cs, a.tmps.getD u undef, a.tmps.getD v undef])) w) : bodyPost P fn R .ret a w := by
 refine bodyPost_ret (v := .tuple #[.agg cs, a.tmps.getD u undef, a.tmps.getD v undef]) ?_ hdef hR
 have hp' : a.tmps[p]?.getD undef = .pointer (some ⟨g, 0, none⟩) := by simpa using hp
 simp [results, h, hp', asAddr, Sem.run_bind, Result.andThen, run_loadVar_row w g t ty cs (0, 0) d hB hu hd hi]

def BRdL (p : Nat → Prop) (B : BrokerD) (L : List Value) (w : World) : Prop := ∃ X0 x0 X1 x1 X2 x2 X3 x3 X4 x4, L = brkV B X0 x0 X1 x1 X2 x2 X3 x3 X4 x4 ∧ BArg p w B X0 x0 X1 x1 X2 x2 X3 x3 X4 x4
def BVal (K : Nat) (B : BrokerD) (L : List Value) (w : World) : Prop := ∃ X0 x0 X1 x1 X2 x2 X3 x3 X4 x4, L = brkV B X0 x0 X1 x1 X2 x2 X3 x3 X4 x4 ∧ BRows K w B (.slice X0 B.log.entries.length x0) (.slice X1 B.receipts.length x1) (.slice X2 B.heads.length x2) (.slice X3 B.sealed.leaves.peaks.length x3) (.slice X4 B.sealed.taken.peaks.length x4) ∧ (∀ x, (Value.slice X3 B.sealed.leaves.peaks.length x3).ownBlock = some x → (Value.slice X4 B.sealed.taken.peaks.length x4).ownBlock ≠ some x)
def LBlk (L : List Value) (x : Nat) : Prop := ∃ v ∈ L, v.ownBlock = some x
def BMkL (w : World) (B : BrokerD) (L : List Value) (k : Nat) : Prop := ∃ X0 x0 X1 x1 X2 x2 X3 x3 X4 x4, L = brkV B X0 x0 X1 x1 X2 x2 X3 x3 X4 x4 ∧ BMk w B (.slice X0 B.log.entries.length x0) (.slice X1 B.receipts.length x1) (.slice X2 B.heads.length x2) (.slice X3 B.sealed.leaves.peaks.length x3) (.slice X4 B.sealed.taken.peaks.length x4) k
section
variable {p q : Nat → Prop} {K K' k : Nat} {B : BrokerD} {L M : List Value} {w w' : World}
theorem BRdL.keep (h : BRdL p B L w) (he : Keep p w w') : BRdL p B L w' := by
 obtain ⟨X0, x0, X1, x1, X2, x2, X3, x3, X4, x4, h1, h2⟩ := h
 exact ⟨X0, x0, X1, x1, X2, x2, X3, x3, X4, x4, h1, h2.keep he⟩
theorem BRdL.ext (h : BRdL p B L w) (he : Ext w w') : BRdL p B L w' := h.keep (he.keep p)
theorem BRdL.len (h : BRdL p B L w) : L.length = 13 := by obtain ⟨_, _, _, _, _, _, _, _, _, _, rfl, _⟩ := h; rfl
theorem BRdL.one (h : BRdL p B L w) : L.all (·.oneCell') = true := by obtain ⟨_, _, _, _, _, _, _, _, _, _, rfl, _⟩ := h; rfl
theorem BVal.len (h : BVal K B L w) : L.length = 13 := by obtain ⟨_, _, _, _, _, _, _, _, _, _, rfl, _⟩ := h; rfl
theorem BVal.one (h : BVal K B L w) : L.all (·.oneCell') = true := by obtain ⟨_, _, _, _, _, _, _, _, _, _, rfl, _⟩ := h; rfl
theorem BVal.ext (h : BVal K B L w) (he : Ext w w') : BVal K B L w' := by
 obtain ⟨X0, x0, X1, x1, X2, x2, X3, x3, X4, x4, h1, h2, h3⟩ := h
 exact ⟨X0, x0, X1, x1, X2, x2, X3, x3, X4, x4, h1, h2.ext he, h3⟩
theorem slF_lt3 {α : Type} {f : α → List Value} {size : Nat} {p : Nat → Prop} {w : World} {A : Option Addr} {l : List α} {c : Nat} (h : SlF p f size w A l c) : SlF (fun b => b < w.heap.size) f size w A l c :=
 ⟨h.le, h.cap, h.reads, fun h0 a e => by obtain ⟨b, off, e2, hb, _⟩ := h.reads.2 h0; rw [e] at e2; cases e2; exact hb⟩
theorem BVal.rd (h : BVal K B L w) : BRdL (fun b => b < w.heap.size) B L w := by
 obtain ⟨X0, x0, X1, x1, X2, x2, X3, x3, X4, x4, h1, h2, h3⟩ := h
 exact ⟨X0, x0, X1, x1, X2, x2, X3, x3, X4, x4, h1, slF_lt3 (slf_at h2.e), slF_lt3 (slf_at h2.r), slF_lt3 (slf_at h2.h), slF_lt3 (slf_at h2.p), slF_lt3 (slf_at h2.q)⟩
theorem lblk_cells {X0 X1 X2 X3 X4 : Option Addr} {x0 x1 x2 x3 x4 x : Nat} (h : LBlk (brkV B X0 x0 X1 x1 X2 x2 X3 x3 X4 x4) x) : BBlk (.slice X0 B.log.entries.length x0) (.slice X1 B.receipts.length x1) (.slice X2 B.heads.length x2) (.slice X3 B.sealed.leaves.peaks.length x3) (.slice X4 B.sealed.taken.peaks.length x4) x := by
 obtain ⟨v, hv, hx⟩ := h
 simp only [brkV, List.mem_cons, List.not_mem_nil, or_false] at hv
 rcases hv with rfl | rfl | rfl | rfl | rfl | rfl | rfl | rfl | rfl | rfl | rfl | rfl | rfl
 · cases hx
 · exact .inl hx
 · exact .inr (.inl hx)
 · exact .inr (.inr (.inl hx))
 · cases hx
 · exact .inr (.inr (.inr (.inl hx)))
 · cases hx
 · exact .inr (.inr (.inr (.inr hx)))
 · cases hx
 · cases hx
 · cases hx
 · cases hx
 · cases hx
theorem cells_lblk {X0 X1 X2 X3 X4 : Option Addr} {x0 x1 x2 x3 x4 x : Nat} (h : BBlk (.slice X0 B.log.entries.length x0) (.slice X1 B.receipts.length x1) (.slice X2 B.heads.length x2) (.slice X3 B.sealed.leaves.peaks.length x3) (.slice X4 B.sealed.taken.peaks.length x4) x) : LBlk (brkV B X0 x0 X1 x1 X2 x2 X3 x3 X4 x4) x := by
 rcases h with h | h | h | h | h
 · exact ⟨_, by simp [brkV], h⟩
 · exact ⟨_, by simp [brkV], h⟩
 · exact ⟨_, by simp [brkV], h⟩
 · exact ⟨_, by simp [brkV], h⟩
 · exact ⟨_, by simp [brkV], h⟩
theorem BVal.lt (h : BVal K B L w) : ∀ x, LBlk L x → K ≤ x ∧ x < w.heap.size := fun x hx => by
 obtain ⟨X0, x0, X1, x1, X2, x2, X3, x3, X4, x4, rfl, h2, h3⟩ := h
 rcases lblk_cells hx with h | h | h | h | h
 · exact h2.e.lt x h
 · exact h2.r.lt x h
 · exact h2.h.lt x h
 · exact h2.p.lt x h
 · exact h2.q.lt x h
theorem BVal.apart {e s n : Nat} {v : Value} {xs : List Value} (h : BVal K B L w) (ho : w.ownsRow K' e s v n xs) (h1 : 56 ≠ e) (h2 : 58 ≠ e) (h3 : 33 ≠ e) (h4 : 9 ≠ e) : ∀ x, LBlk L x → v.ownBlock ≠ some x := fun x hx => by
 obtain ⟨X0, x0, X1, x1, X2, x2, X3, x3, X4, x4, rfl, k2, k3⟩ := h
 rcases lblk_cells hx with h | h | h | h | h
 · exact own_apart k2.e ho h1 x h
 · exact own_apart k2.r ho h2 x h
 · exact own_apart k2.h ho h3 x h
 · exact own_apart k2.p ho h4 x h
 · exact own_apart k2.q ho h4 x h
theorem BVal.frm {X : Nat → Prop} (h : BVal K B L w) (f : Frm X w w') (hX : ∀ x, LBlk L x → ¬ X x) : BVal K B L w' := by
 obtain ⟨X0, x0, X1, x1, X2, x2, X3, x3, X4, x4, rfl, h2, h3⟩ := h
 have hc := fun x hx => hX x (cells_lblk hx)
 exact ⟨X0, x0, X1, x1, X2, x2, X3, x3, X4, x4, rfl, ⟨f.own h2.e (fun y hy => hc y (.inl hy)), f.own h2.r (fun y hy => hc y (.inr (.inl hy))), f.own h2.h (fun y hy => hc y (.inr (.inr (.inl hy)))), f.own h2.p (fun y hy => hc y (.inr (.inr (.inr (.inl hy))))), f.own h2.q (fun y hy => hc y (.inr (.inr (.inr (.inr hy)))))⟩, h3⟩
theorem BMkL.ext (h : BMkL w B L k) (he : Ext w w') : BMkL w' B L k := by
 obtain ⟨X0, x0, X1, x1, X2, x2, X3, x3, X4, x4, h1, h2⟩ := h
 exact ⟨X0, x0, X1, x1, X2, x2, X3, x3, X4, x4, h1, h2.ext he⟩
theorem BMkL.frm {X : Nat → Prop} (h : BMkL w B L k) (f : Frm X w w') (hX : ∀ x, LBlk L x → ¬ X x) : BMkL w' B L k := by
 obtain ⟨X0, x0, X1, x1, X2, x2, X3, x3, X4, x4, rfl, h2⟩ := h
 exact ⟨X0, x0, X1, x1, X2, x2, X3, x3, X4, x4, rfl, h2.frm f (fun x hx => hX x (cells_lblk hx))⟩
def WVal (K : Nat) (W : List WriteD) (v : Value) (w : World) : Prop := w.ownsRow K 63 3 v W.length (W.flatMap WriteD.cells)
def WRd (p : Nat → Prop) (W : List WriteD) (v : Value) (w : World) : Prop := ∃ A c, v = .slice A W.length c ∧ SlF p WriteD.cells 3 w A W c
theorem WRd.keep {W : List WriteD} {v : Value} (h : WRd p W v w) (he : Keep p w w') : WRd p W v w' := by obtain ⟨A, c, h1, h2⟩ := h; exact ⟨A, c, h1, h2.keep he⟩
theorem WRd.ext {W : List WriteD} {v : Value} (h : WRd p W v w) (he : Ext w w') : WRd p W v w' := h.keep (he.keep p)
theorem WVal.rd {W : List WriteD} {v : Value} (h : WVal K W v w) : WRd (fun b => b < w.heap.size) W v w := by
 obtain ⟨A, c, rfl, _⟩ := ownsRow_form h
 exact ⟨A, c, rfl, slF_lt3 (slf_at h)⟩
def Ans3 (B : BrokerD) (W : List WriteD) (c : Nat) (w : World) (e : Ending) (w' : World) : Prop :=
 ∃ L v, e = .returned (.tuple #[.agg L.toArray, v, .int .i64 (c : Int)]) ∧ BVal w.heap.size B L w' ∧ WVal w.heap.size W v w' ∧ Ext w w'
theorem Ans3.of {W : List WriteD} {c : Nat} {e : Ending} (h : BrAns B W c w e w') : Ans3 B W c w e w' := by
 obtain ⟨ve, vr, vh, v1, v2, vw, h1, h2, h3, h4, h5⟩ := h
 obtain ⟨X0, x0, rfl, _⟩ := ownsRow_form h2.e
 obtain ⟨X1, x1, rfl, _⟩ := ownsRow_form h2.r
 obtain ⟨X2, x2, rfl, _⟩ := ownsRow_form h2.h
 obtain ⟨X3, x3, rfl, _⟩ := ownsRow_form h2.p
 obtain ⟨X4, x4, rfl, _⟩ := ownsRow_form h2.q
 exact ⟨_, vw, h1, ⟨X0, x0, X1, x1, X2, x2, X3, x3, X4, x4, rfl, h2, h3⟩, h4, h5⟩
end
def textsE (b : BrokerD) : List ByteArray := b.log.entries.map leafText
def textsH (b : BrokerD) : List ByteArray := (b.heads.drop 1).map (headText b.width)
def textsR (b : BrokerD) : List ByteArray := b.receipts.map receiptText
def fileT (b : BrokerD) (f : Nat) : List ByteArray := (if f = 0 then textsE b else []) ++ (if f = 1 then textsH b else []) ++ (if f = 2 then textsR b else [])
theorem fileT_0 (b : BrokerD) : fileT b 0 = textsE b := by simp [fileT]
theorem fileT_1 (b : BrokerD) : fileT b 1 = textsH b := by simp [fileT]
theorem fileT_2 (b : BrokerD) : fileT b 2 = textsR b := by simp [fileT]
def offT : List ByteArray → Nat
 | [] => 0
 | t :: r => (6 + t.size) + offT r
theorem offT_le {m : Nat} : ∀ {l : List ByteArray}, (∀ t ∈ l, t.size ≤ m) → offT l ≤ l.length * (m + 6)
 | [], _ => by simp [offT]
 | t :: r, h => by
   have h1 := h t (by simp)
   have h2 := offT_le (l := r) (m := m) (fun x hx => h x (by simp [hx]))
   simp only [offT, List.length_cons, Nat.succ_mul]
   omega
theorem framesT_off : ∀ {l : List ByteArray}, (∀ t ∈ l, fits1 t = true) → (framesT l).size = offT l
 | [], _ => rfl
 | t :: r, h => by
   have h1 := frameB_size (h t (by simp))
   have h2 := framesT_off (l := r) (fun x hx => h x (by simp [hx]))
   simp only [framesT, ByteArray.size_append, offT, h1, h2]
   omega
theorem leafText_fits {d : EntryD} (h : entryOk d = true) : 1 ≤ (leafText d).size ∧ (leafText d).size ≤ 500 := by
 have := entryOk_bounds h
 unfold leafText
 rw [if_pos h, leafT]
 have e : (lowB d.time.toNat 4).size = 4 := rfl
 have e1 : (⟨#[69]⟩ : ByteArray).size = 1 := rfl
 have o1 : ∀ k : Int, (octB k).size = 1 := fun _ => rfl
 simp only [ByteArray.size_append, o1, e, e1]
 omega
theorem receiptText_fits {d : ReceiptD} (h : receiptOk d = true) : 1 ≤ (receiptText d).size ∧ (receiptText d).size ≤ 500 := by
 have h' := h
 simp only [receiptOk, Bool.and_eq_true] at h'
 have s1 := nameOk_size h'.1.1
 have s2 := nameOk_size h'.1.2
 unfold receiptText
 rw [if_pos h, receiptT]
 have e1 : (⟨#[82]⟩ : ByteArray).size = 1 := rfl
 have o1 : ∀ k : Int, (octB k).size = 1 := fun _ => rfl
 simp only [ByteArray.size_append, o1, e1]
 omega
theorem headText_fits {n : Int} {d : HeadD} (h : headOk n d = true) : 1 ≤ (headText n d).size ∧ (headText n d).size ≤ 500 := by
 have := headOk_bounds h
 unfold headText
 rw [if_pos h, headT]
 simp only [ByteArray.size_append, lowB_size]
 omega
theorem fits_of {t : ByteArray} (h : 1 ≤ t.size ∧ t.size ≤ 500) : fits1 t = true := by
 unfold fits1 inR
 simp only [Bool.and_eq_true, decide_eq_true_eq]
 omega
theorem frames_ok {l : List ByteArray} (hl : l.length ≤ 512) (h : ∀ t ∈ l, 1 ≤ t.size ∧ t.size ≤ 500) : framesOk l = true ∧ (framesOut l).size = offT l := by
 have h1 : ∀ t ∈ l, fits1 t = true := fun t ht => fits_of (h t ht)
 have h2 := framesT_off h1
 have h3 := offT_le (l := l) (m := 500) (fun t ht => (h t ht).2)
 have h4 : framesOk l = true := framesOk_yes (by omega) h1 (by rw [h2]; omega)
 exact ⟨h4, by rw [framesOut_yes h4, h2]⟩
theorem file_fits {b : BrokerD} (hE : ∀ e ∈ b.log.entries, entryOk e = true) (hR : ∀ r ∈ b.receipts, receiptOk r = true) (hH : ∀ h ∈ b.heads, headOk b.width h = true) (f : Nat) : ∀ t ∈ fileT b f, 1 ≤ t.size ∧ t.size ≤ 500 := by
 intro t ht
 unfold fileT at ht
 rw [List.mem_append, List.mem_append] at ht
 rcases ht with (ht | ht) | ht
 · split at ht
   · obtain ⟨e, he, rfl⟩ := List.mem_map.1 ht; exact leafText_fits (hE e he)
   · simp at ht
 · split at ht
   · obtain ⟨e, he, rfl⟩ := List.mem_map.1 ht; exact headText_fits (hH e (List.mem_of_mem_drop he))
   · simp at ht
 · split at ht
   · obtain ⟨e, he, rfl⟩ := List.mem_map.1 ht; exact receiptText_fits (hR e he)
   · simp at ht
theorem file_len {b : BrokerD} (h0 : b.log.entries.length ≤ 512) (h1 : b.receipts.length ≤ 512) (h2 : b.heads.length ≤ 400) (f : Nat) : (fileT b f).length ≤ 512 := by
 unfold fileT
 by_cases f0 : f = 0
 · subst f0; simp [textsE]; omega
 by_cases f1 : f = 1
 · subst f1; simp [textsH]; omega
 by_cases f2 : f = 2
 · subst f2; simp [textsR]; omega
 simp [f0, f1, f2]
theorem broker_parts {b : BrokerD} (h : brokerB b = true) : inR b.width 1 32 = true ∧ b.log.entries.length ≤ 512 ∧ (∀ e ∈ b.log.entries, entryOk e = true) ∧ b.receipts.length ≤ 512 ∧ (∀ r ∈ b.receipts, receiptOk r = true) ∧ 0 < b.heads.length ∧ b.heads.length ≤ 400 ∧ (∀ h ∈ b.heads, headOk b.width h = true) := by
 rw [brokerB, Bool.and_eq_true] at h
 have p := h.1
 simp only [brkParts, Bool.and_eq_true, decide_eq_true_eq] at p
 obtain ⟨⟨⟨⟨⟨⟨⟨hw, hlog⟩, hrec⟩, h0⟩, hh⟩, hz0⟩, hsl⟩, hrd⟩ := p
 have l3 := headsOk_all hh
 refine ⟨hw, (logOk_all hlog).1, (logOk_all hlog).2, (recsOk_all hrec).1, (recsOk_all hrec).2, h0, l3.2.1, fun x hx => ?_⟩
 obtain ⟨j, hj, e⟩ := List.mem_iff_getElem.1 hx
 exact (headAt_ok (List.getElem?_eq_some_iff.2 ⟨hj, e⟩) (l3.2.2 j hj)).1
def writeW (b : BrokerD) (f : Nat) (t : ByteArray) : WriteD := ⟨(f : Int), ((offT (fileT b f) : Nat) : Int), frameOut t⟩
def adCode (l : List EntryD) (e : EntryD) : Nat := if nameOk e.topic then (if partsB e.time e.key e.body then (if 512 ≤ l.length then 4 else 0) else 3) else 2
theorem ad2 {l : List EntryD} {e : EntryD} (h : nameOk e.topic = false) : adCode l e = 2 := by simp [adCode, h]
theorem ad3 {l : List EntryD} {e : EntryD} (h : nameOk e.topic = true) (h1 : partsB e.time e.key e.body = false) : adCode l e = 3 := by simp [adCode, h, h1]
theorem ad4 {l : List EntryD} {e : EntryD} (h : nameOk e.topic = true) (h1 : partsB e.time e.key e.body = true) (h2 : 512 ≤ l.length) : adCode l e = 4 := by simp [adCode, h, h1, h2]
theorem ad0 {l : List EntryD} {e : EntryD} (h : nameOk e.topic = true) (h1 : partsB e.time e.key e.body = true) (h2 : ¬ 512 ≤ l.length) : adCode l e = 0 := by simp [adCode, h, h1, h2]
theorem ad_good {l : List EntryD} {e : EntryD} (h : adCode l e = 0) : nameOk e.topic = true ∧ partsB e.time e.key e.body = true ∧ l.length < 512 := by
 unfold adCode at h
 cases h1 : nameOk e.topic
 · rw [h1] at h; simp at h
 · cases h2 : partsB e.time e.key e.body
   · rw [h1, h2] at h; simp at h
   · rw [h1, h2] at h
     by_cases h3 : 512 ≤ l.length
     · simp [h3] at h
     · exact ⟨rfl, rfl, by omega⟩
def pbNew (b : BrokerD) (e : EntryD) : EntryD := addNew b.log.entries e
def pbB0 (b : BrokerD) (e : EntryD) : BrokerD := ⟨b.width, ⟨b.log.entries ++ [pbNew b e]⟩, b.receipts, b.heads, b.sealed⟩
def tkCode (b : BrokerD) (r : ReceiptD) : Nat :=
 if receiptOk r then (if inR (idxB (ofTI r.topic r.index) b.log.entries) 0 ((lastH b.heads).size - 1) then (if 0 ≤ idxB (fun x => x.eqb r) b.receipts then 4 else if 512 ≤ b.receipts.length then 5 else 0) else 3) else 2
def tkB (b : BrokerD) (r : ReceiptD) : BrokerD := ⟨b.width, b.log, b.receipts ++ [r], b.heads, b.sealed⟩
theorem tk2 {b : BrokerD} {r : ReceiptD} (h : receiptOk r = false) : tkCode b r = 2 := by simp [tkCode, h]
theorem tk3 {b : BrokerD} {r : ReceiptD} (h : receiptOk r = true) (h1 : inR (idxB (ofTI r.topic r.index) b.log.entries) 0 ((lastH b.heads).size - 1) = false) : tkCode b r = 3 := by simp [tkCode, h, h1]
theorem tk4 {b : BrokerD} {r : ReceiptD} (h : receiptOk r = true) (h1 : inR (idxB (ofTI r.topic r.index) b.log.entries) 0 ((lastH b.heads).size - 1) = true) (h2 : 0 ≤ idxB (fun x => x.eqb r) b.receipts) : tkCode b r = 4 := by simp [tkCode, h, h1, h2]
theorem tk5 {b : BrokerD} {r : ReceiptD} (h : receiptOk r = true) (h1 : inR (idxB (ofTI r.topic r.index) b.log.entries) 0 ((lastH b.heads).size - 1) = true) (h2 : ¬ 0 ≤ idxB (fun x => x.eqb r) b.receipts) (h3 : 512 ≤ b.receipts.length) : tkCode b r = 5 := by simp only [tkCode, h, h1, h2, h3, if_true, if_false]
theorem tk0 {b : BrokerD} {r : ReceiptD} (h : receiptOk r = true) (h1 : inR (idxB (ofTI r.topic r.index) b.log.entries) 0 ((lastH b.heads).size - 1) = true) (h2 : ¬ 0 ≤ idxB (fun x => x.eqb r) b.receipts) (h3 : ¬ 512 ≤ b.receipts.length) : tkCode b r = 0 := by simp only [tkCode, h, h1, h2, h3, if_true, if_false]
theorem last_ok {b : BrokerD} (h : brokerB b = true) : headOk b.width (lastH b.heads) = true ∧ 0 ≤ (lastH b.heads).size ∧ (lastH b.heads).size ≤ 512 := by
 obtain ⟨hw, _, _, _, _, h0, _, hh⟩ := broker_parts h
 have h1 := hh _ (List.mem_of_getElem? (last_at h0))
 have h2 := headOk_in h1
 exact ⟨h1, h2.1, h2.2.1⟩
def slL (b : BrokerD) : List ByteArray := leavesH b.width b.log.entries
def slT (b : BrokerD) : List ByteArray := takenH b.width b.receipts
def slHead (b : BrokerD) : HeadD := ⟨(lastH b.heads).number + 1, ((slL b).length : Nat), treeR b.width (slL b), ((slT b).length : Nat), treeR b.width (slT b)⟩
def slSeal (b : BrokerD) : SealD := ⟨rangeOf b.width (slL b), rangeOf b.width (slT b), slHead b⟩
def slMid (b : BrokerD) : BrokerD := ⟨b.width, b.log, b.receipts, b.heads, slSeal b⟩
def slB (b : BrokerD) : BrokerD := ⟨b.width, b.log, b.receipts, b.heads ++ [slHead b], slSeal b⟩
def slCode (b : BrokerD) : Nat := if (b.log.entries.length : Int) - (lastH b.heads).size = 0 ∧ (b.receipts.length : Int) - (lastH b.heads).taken = 0 then 2 else if 400 ≤ b.heads.length then 3 else 0
structure SlF_ (b : BrokerD) (n1 n2 : Nat) : Prop where
 s : (lastH b.heads).size = (n1 : Int)
 t : (lastH b.heads).taken = (n2 : Int)
 e : n1 ≤ b.log.entries.length
 r : n2 ≤ b.receipts.length
 w : inR b.width 1 32 = true
 z : b.sealed = ⟨⟨(n1 : Int), (peaksOf (ndB b.width) ((slL b).take n1)).reverse⟩, ⟨(n2 : Int), (peaksOf (ndB b.width) ((slT b).take n2)).reverse⟩, lastH b.heads⟩
 n : (lastH b.heads).number = ((b.heads.length - 1 : Nat) : Int)
 l : ∀ x ∈ slL b, WdT b.width x
 m : ∀ x ∈ slT b, WdT b.width x
 h0 : 0 < b.heads.length
 le : b.log.entries.length ≤ 512
 lr : b.receipts.length ≤ 512
 lh : b.heads.length ≤ 400
theorem sl_facts {b : BrokerD} (h : brokerB b = true) : ∃ n1 n2, SlF_ b n1 n2 := by
 obtain ⟨hw, he, he2, hr, hr2, h0, hh, hok⟩ := broker_parts h
 have h' := h
 rw [brokerB, Bool.and_eq_true] at h'
 have p := h'.1
 simp only [brkParts, Bool.and_eq_true, decide_eq_true_eq] at p
 obtain ⟨⟨⟨⟨⟨⟨⟨_, hlog⟩, hrec⟩, _⟩, hhs⟩, hz0⟩, hsl⟩, hrd⟩ := p
 have hl := headOk_in (hok _ (List.mem_of_getElem? (last_at h0)))
 have h1 := allTo_iff.1 hsl (b.heads.length - 1) (by omega)
 rw [sealAt, last_at h0] at h1
 simp only [Bool.and_eq_true, decide_eq_true_eq] at h1
 have e1 := h1.1.1.1; have e2 := h1.1.1.2
 rw [leavesH, List.length_map] at e1
 rw [takenH, List.length_map] at e2
 have hs := sameSealB_iff.1 h'.2
 refine ⟨(lastH b.heads).size.toNat, (lastH b.heads).taken.toNat, ⟨by omega, by omega, by omega, by omega, hw, ?_, ?_, fun x hx => leavesH_size hw hlog x hx, fun x hx => takenH_size hw hrec x hx, h0, he, hr, hh⟩⟩
 · rw [← hs]
   have k1 : ((leavesH b.width b.log.entries).take (lastH b.heads).size.toNat).length = (lastH b.heads).size.toNat := by rw [List.length_take, leavesH, List.length_map]; omega
   have k2 : ((takenH b.width b.receipts).take (lastH b.heads).taken.toNat).length = (lastH b.heads).taken.toNat := by rw [List.length_take, takenH, List.length_map]; omega
   simp only [sealOfH, rangeOf, slL, slT, k1, k2]
 · exact (headAt_ok (last_at h0) ((headsOk_all hhs).2.2 _ (by omega))).2
theorem sl_grow {α : Type} (nd : α → α → α) (L : List α) {n : Nat} (h : n ≤ L.length) : growL nd n (peaksOf nd (L.take n)) (L.drop n) = peaksOf nd L := by
 have h1 := peaks_take (nd := nd) L (a := n) (b := L.length) h (Nat.le_refl _)
 rw [List.take_of_length_le (l := L.drop n) (by rw [List.length_drop]; omega), List.take_of_length_le (l := L) (Nat.le_refl _)] at h1
 exact h1
end Go.Proofs.YtgeengkdgdjcjaaGreat

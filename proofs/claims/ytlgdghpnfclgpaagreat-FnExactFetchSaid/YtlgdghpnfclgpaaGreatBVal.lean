/-
  BrAns; ConvWrite; BVal: No condition.
-/
import Derived.Test.YtlgdghpnfclgpaaGreatCopyC
import Derived.Test.YtlgdghpnfclgpaaGreatTypes
import Derived.StillTailTactics
import Derived.Test.YtlgdghpnfclgpaaGreatBrkOwn
import Derived.Test.YtlgdghpnfclgpaaGreatBrkEn2
namespace Go.Proofs.YtlgdghpnfclgpaaGreat
set_option linter.unusedSimpArgs false
open Go.RowKit
set_option linter.unusedVariables false
def BrAns (B : BrokerD) (W : List WriteD) (c : Nat) (w : World) (e : Ending) (w' : World) : Prop :=
 ∃ ve vr vh v1 v2 vw, e = .returned (.tuple #[.agg (brkCs B ve vr vh v1 v2).toArray, vw, .int .i64 (c : Int)]) ∧ BRows w.heap.size w' B ve vr vh v1 v2 ∧ (∀ x, v1.ownBlock = some x → v2.ownBlock ≠ some x) ∧ w'.ownsRow w.heap.size 112 3 vw W.length (W.flatMap WriteD.cells) ∧ Ext w w'
theorem BrAns.bad {w w' : World} {e : Ending} {vw : Value} {k : Nat} (he : e = .returned (.tuple #[.agg #[.int .i64 0, .slice none 0 0, .slice none 0 0, .slice none 0 0, .int .i64 0, .slice none 0 0, .int .i64 0, .slice none 0 0, .int .i64 0, .int .i64 0, .string ⟨#[]⟩, .int .i64 0, .string ⟨#[]⟩], vw, .int .i64 (k : Int)])) (ho : w'.ownsRow w.heap.size 112 3 vw 0 []) (hx : Ext w w') : BrAns noB [] k w e w' :=
 ⟨_, _, _, _, _, vw, he, BRows.zero _ _, (fun x h => by cases h), ho, hx⟩
def WriteD.lens (d : WriteD) : List Nat := [d.text.size]
def BRdL (p : Nat → Prop) (B : BrokerD) (L : List Value) (w : World) : Prop := ∃ X0 x0 X1 x1 X2 x2 X3 x3 X4 x4, L = brkV B X0 x0 X1 x1 X2 x2 X3 x3 X4 x4 ∧ BArg p w B X0 x0 X1 x1 X2 x2 X3 x3 X4 x4
def BVal (K : Nat) (B : BrokerD) (L : List Value) (w : World) : Prop := ∃ X0 x0 X1 x1 X2 x2 X3 x3 X4 x4, L = brkV B X0 x0 X1 x1 X2 x2 X3 x3 X4 x4 ∧ BRows K w B (.slice X0 B.log.entries.length x0) (.slice X1 B.receipts.length x1) (.slice X2 B.heads.length x2) (.slice X3 B.sealed.leaves.peaks.length x3) (.slice X4 B.sealed.taken.peaks.length x4) ∧ (∀ x, (Value.slice X3 B.sealed.leaves.peaks.length x3).ownBlock = some x → (Value.slice X4 B.sealed.taken.peaks.length x4).ownBlock ≠ some x)
def LBlk (L : List Value) (x : Nat) : Prop := ∃ v ∈ L, v.ownBlock = some x
def BMkL (w : World) (B : BrokerD) (L : List Value) (k : Nat) : Prop := ∃ X0 x0 X1 x1 X2 x2 X3 x3 X4 x4, L = brkV B X0 x0 X1 x1 X2 x2 X3 x3 X4 x4 ∧ BMk w B (.slice X0 B.log.entries.length x0) (.slice X1 B.receipts.length x1) (.slice X2 B.heads.length x2) (.slice X3 B.sealed.leaves.peaks.length x3) (.slice X4 B.sealed.taken.peaks.length x4) k
section
variable {p q : Nat → Prop} {K K' k : Nat} {B : BrokerD} {L M : List Value} {w w' : World}
theorem BRdL.keep (h : BRdL p B L w) (he : Keep p w w') : BRdL p B L w' := by
 obtain ⟨X0, x0, X1, x1, X2, x2, X3, x3, X4, x4, h1, h2⟩ := h
 exact ⟨X0, x0, X1, x1, X2, x2, X3, x3, X4, x4, h1, h2.keep he⟩
theorem BRdL.ext (h : BRdL p B L w) (he : Ext w w') : BRdL p B L w' := h.keep (he.keep p)
theorem BRdL.len (h : BRdL p B L w) : L.length = 13 := by obtain ⟨_, _, _, _, _, _, _, _, _, _, rfl, _⟩ := h; rfl
theorem BRdL.one (h : BRdL p B L w) : L.all (·.oneCell') = true := by obtain ⟨_, _, _, _, _, _, _, _, _, _, rfl, _⟩ := h; rfl
theorem BVal.len (h : BVal K B L w) : L.length = 13 := by obtain ⟨_, _, _, _, _, _, _, _, _, _, rfl, _⟩ := h; rfl
theorem BVal.one (h : BVal K B L w) : L.all (·.oneCell') = true := by obtain ⟨_, _, _, _, _, _, _, _, _, _, rfl, _⟩ := h; rfl
theorem BVal.ext (h : BVal K B L w) (he : Ext w w') : BVal K B L w' := by
 obtain ⟨X0, x0, X1, x1, X2, x2, X3, x3, X4, x4, h1, h2, h3⟩ := h
 exact ⟨X0, x0, X1, x1, X2, x2, X3, x3, X4, x4, h1, h2.ext he, h3⟩
theorem slF_lt3 {α : Type} {f : α → List Value} {size : Nat} {p : Nat → Prop} {w : World} {A : Option Addr} {l : List α} {c : Nat} (h : SlF p f size w A l c) : SlF (fun b => b < w.heap.size) f size w A l c :=
 ⟨h.le, h.cap, h.reads, fun h0 a e => by obtain ⟨b, off, e2, hb, _⟩ := h.reads.2 h0; rw [e] at e2; cases e2; exact hb⟩
theorem BVal.rd (h : BVal K B L w) : BRdL (fun b => b < w.heap.size) B L w := by
 obtain ⟨X0, x0, X1, x1, X2, x2, X3, x3, X4, x4, h1, h2, h3⟩ := h
 exact ⟨X0, x0, X1, x1, X2, x2, X3, x3, X4, x4, h1, slF_lt3 (slf_at h2.e), slF_lt3 (slf_at h2.r), slF_lt3 (slf_at h2.h), slF_lt3 (slf_at h2.p), slF_lt3 (slf_at h2.q)⟩
theorem lblk_cells {X0 X1 X2 X3 X4 : Option Addr} {x0 x1 x2 x3 x4 x : Nat} (h : LBlk (brkV B X0 x0 X1 x1 X2 x2 X3 x3 X4 x4) x) : BBlk (.slice X0 B.log.entries.length x0) (.slice X1 B.receipts.length x1) (.slice X2 B.heads.length x2) (.slice X3 B.sealed.leaves.peaks.length x3) (.slice X4 B.sealed.taken.peaks.length x4) x := by
 obtain ⟨v, hv, hx⟩ := h
 simp only [brkV, List.mem_cons, List.not_mem_nil, or_false] at hv
 rcases hv with rfl | rfl | rfl | rfl | rfl | rfl | rfl | rfl | rfl | rfl | rfl | rfl | rfl
 · cases hx
 · exact .inl hx
 · exact .inr (.inl hx)
 · exact .inr (.inr (.inl hx))
 · cases hx
 · exact .inr (.inr (.inr (.inl hx)))
 · cases hx
 · exact .inr (.inr (.inr (.inr hx)))
 · cases hx
 · cases hx
 · cases hx
 · cases hx
 · cases hx
theorem cells_lblk {X0 X1 X2 X3 X4 : Option Addr} {x0 x1 x2 x3 x4 x : Nat} (h : BBlk (.slice X0 B.log.entries.length x0) (.slice X1 B.receipts.length x1) (.slice X2 B.heads.length x2) (.slice X3 B.sealed.leaves.peaks.length x3) (.slice X4 B.sealed.taken.peaks.length x4) x) : LBlk (brkV B X0 x0 X1 x1 X2 x2 X3 x3 X4 x4) x := by
 rcases h with h | h | h | h | h
 · exact ⟨_, by simp [brkV], h⟩
 · exact ⟨_, by simp [brkV], h⟩
 · exact ⟨_, by simp [brkV], h⟩
 · exact ⟨_, by simp [brkV], h⟩
 · exact ⟨_, by simp [brkV], h⟩
theorem BVal.lt (h : BVal K B L w) : ∀ x, LBlk L x → K ≤ x ∧ x < w.heap.size := fun x hx => by
 obtain ⟨X0, x0, X1, x1, X2, x2, X3, x3, X4, x4, rfl, h2, h3⟩ := h
 rcases lblk_cells hx with h | h | h | h | h
 · exact h2.e.lt x h
 · exact h2.r.lt x h
 · exact h2.h.lt x h
 · exact h2.p.lt x h
 · exact h2.q.lt x h
theorem BVal.apart {e s n : Nat} {v : Value} {xs : List Value} (h : BVal K B L w) (ho : w.ownsRow K' e s v n xs) (h1 : 46 ≠ e) (h2 : 77 ≠ e) (h3 : 55 ≠ e) (h4 : 9 ≠ e) : ∀ x, LBlk L x → v.ownBlock ≠ some x := fun x hx => by
 obtain ⟨X0, x0, X1, x1, X2, x2, X3, x3, X4, x4, rfl, k2, k3⟩ := h
 rcases lblk_cells hx with h | h | h | h | h
 · exact own_apart k2.e ho h1 x h
 · exact own_apart k2.r ho h2 x h
 · exact own_apart k2.h ho h3 x h
 · exact own_apart k2.p ho h4 x h
 · exact own_apart k2.q ho h4 x h
theorem BVal.frm {X : Nat → Prop} (h : BVal K B L w) (f : Frm X w w') (hX : ∀ x, LBlk L x → ¬ X x) : BVal K B L w' := by
 obtain ⟨X0, x0, X1, x1, X2, x2, X3, x3, X4, x4, rfl, h2, h3⟩ := h
 have hc := fun x hx => hX x (cells_lblk hx)
 exact ⟨X0, x0, X1, x1, X2, x2, X3, x3, X4, x4, rfl, ⟨f.own h2.e (fun y hy => hc y (.inl hy)), f.own h2.r (fun y hy => hc y (.inr (.inl hy))), f.own h2.h (fun y hy => hc y (.inr (.inr (.inl hy)))), f.own h2.p (fun y hy => hc y (.inr (.inr (.inr (.inl hy))))), f.own h2.q (fun y hy => hc y (.inr (.inr (.inr (.inr hy)))))⟩, h3⟩
theorem BMkL.ext (h : BMkL w B L k) (he : Ext w w') : BMkL w' B L k := by
 obtain ⟨X0, x0, X1, x1, X2, x2, X3, x3, X4, x4, h1, h2⟩ := h
 exact ⟨X0, x0, X1, x1, X2, x2, X3, x3, X4, x4, h1, h2.ext he⟩
theorem BMkL.frm {X : Nat → Prop} (h : BMkL w B L k) (f : Frm X w w') (hX : ∀ x, LBlk L x → ¬ X x) : BMkL w' B L k := by
 obtain ⟨X0, x0, X1, x1, X2, x2, X3, x3, X4, x4, rfl, h2⟩ := h
 exact ⟨X0, x0, X1, x1, X2, x2, X3, x3, X4, x4, rfl, h2.frm f (fun x hx => hX x (cells_lblk hx))⟩
theorem lens_len (h : ∀ n ∈ B.lens, n ≤ 1048576) : BLen B :=
 ⟨h _ (by simp [BrokerD.lens, LogD.lens]), h _ (by simp [BrokerD.lens]), h _ (by simp [BrokerD.lens]), h _ (by simp [BrokerD.lens, SealD.lens, RangeD.lens]), h _ (by simp [BrokerD.lens, SealD.lens, RangeD.lens])⟩
theorem lens_sz (h : ∀ n ∈ B.lens, n ≤ 1048576) : BSz B := ⟨(lens_len h).e, (lens_len h).r, (lens_len h).h, (lens_len h).p, (lens_len h).q⟩
theorem bvEq (h : BRdL p B L w) (m : BRdL q B M w) (hf : ∀ n ∈ B.lens, n ≤ 1048576) :
 Calls Tryz.prog 20 #[.agg L.toArray, .agg M.toArray] w fun e w' => e = .returned (.bool true) ∧ Ext w w' := by
 obtain ⟨X0, x0, X1, x1, X2, x2, X3, x3, X4, x4, rfl, h2⟩ := h
 obtain ⟨Y0, y0, Y1, y1, Y2, y2, Y3, y3, Y4, y4, rfl, k2⟩ := m
 exact eqBroker_same B X0 x0 X1 x1 X2 x2 X3 x3 X4 x4 Y0 y0 Y1 y1 Y2 y2 Y3 y3 Y4 y4 w h2.e.any h2.r.any h2.h.any h2.u.any h2.v.any k2.e.any k2.r.any k2.h.any k2.u.any k2.v.any hf
theorem bvMark (h : BVal K B L w) (hl : BLen B) (hk : k ≤ 10000000) :
 Calls Tryz.prog 21 #[.agg L.toArray, .int .i64 (k : Int)] w fun e w' => e = .returned (.int .i64 ((k + BrkN B : Nat) : Int)) ∧ BMkL w' B L k ∧ Frm (LBlk L) w w' := by
 obtain ⟨X0, x0, X1, x1, X2, x2, X3, x3, X4, x4, rfl, h2, h3⟩ := h
 refine (markBroker_row (k := k) w h2 h3 hl hk).mono ?_
 rintro e w' ⟨h4, h5, h6⟩
 exact ⟨h4, ⟨X0, x0, X1, x1, X2, x2, X3, x3, X4, x4, rfl, h5⟩, h6.mono (fun b _ hb => cells_lblk hb)⟩
theorem bvTo (h : BRdL p B L w) (hf : ∀ n ∈ B.lens, n ≤ 1048576) :
 Calls Tryz.prog 16 #[.agg L.toArray] w fun e w' => ∃ M, e = .returned (.agg M.toArray) ∧ BVal w.heap.size B M w' ∧ Ext w w' := by
 obtain ⟨X0, x0, X1, x1, X2, x2, X3, x3, X4, x4, rfl, h2⟩ := h
 refine (toBroker_own B X0 x0 X1 x1 X2 x2 X3 x3 X4 x4 w h2.e.any h2.r.any h2.h.any h2.u.any h2.v.any hf).mono ?_
 rintro e w' ⟨G0, D0, G1, D1, G2, D2, G3, D3, G4, D4, h3, h4, h5, h6⟩
 exact ⟨_, h3, ⟨G0, D0, G1, D1, G2, D2, G3, D3, G4, D4, rfl, h4, h5⟩, h6⟩
def WVal (K : Nat) (W : List WriteD) (v : Value) (w : World) : Prop := w.ownsRow K 112 3 v W.length (W.flatMap WriteD.cells)
def WRd (p : Nat → Prop) (W : List WriteD) (v : Value) (w : World) : Prop := ∃ A c, v = .slice A W.length c ∧ SlF p WriteD.cells 3 w A W c
theorem WRd.keep {W : List WriteD} {v : Value} (h : WRd p W v w) (he : Keep p w w') : WRd p W v w' := by obtain ⟨A, c, h1, h2⟩ := h; exact ⟨A, c, h1, h2.keep he⟩
theorem WRd.ext {W : List WriteD} {v : Value} (h : WRd p W v w) (he : Ext w w') : WRd p W v w' := h.keep (he.keep p)
theorem WVal.rd {W : List WriteD} {v : Value} (h : WVal K W v w) : WRd (fun b => b < w.heap.size) W v w := by
 obtain ⟨A, c, rfl, _⟩ := ownsRow_form h
 exact ⟨A, c, rfl, slF_lt3 (slf_at h)⟩
def Ans3 (B : BrokerD) (W : List WriteD) (c : Nat) (w : World) (e : Ending) (w' : World) : Prop :=
 ∃ L v, e = .returned (.tuple #[.agg L.toArray, v, .int .i64 (c : Int)]) ∧ BVal w.heap.size B L w' ∧ WVal w.heap.size W v w' ∧ Ext w w'
theorem Ans3.of {W : List WriteD} {c : Nat} {e : Ending} (h : BrAns B W c w e w') : Ans3 B W c w e w' := by
 obtain ⟨ve, vr, vh, v1, v2, vw, h1, h2, h3, h4, h5⟩ := h
 obtain ⟨X0, x0, rfl, _⟩ := ownsRow_form h2.e
 obtain ⟨X1, x1, rfl, _⟩ := ownsRow_form h2.r
 obtain ⟨X2, x2, rfl, _⟩ := ownsRow_form h2.h
 obtain ⟨X3, x3, rfl, _⟩ := ownsRow_form h2.p
 obtain ⟨X4, x4, rfl, _⟩ := ownsRow_form h2.q
 exact ⟨_, vw, h1, ⟨X0, x0, X1, x1, X2, x2, X3, x3, X4, x4, rfl, h2, h3⟩, h4, h5⟩
end
end Go.Proofs.YtlgdghpnfclgpaaGreat

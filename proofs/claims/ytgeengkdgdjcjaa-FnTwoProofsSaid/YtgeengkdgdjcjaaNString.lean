/-
  Eqs; HeadOps; Nest; NString: No condition.
-/
import Derived.Test.YtgeengkdgdjcjaaTexts
import Derived.Laws.StructEq
import Derived.Test.YtgeengkdgdjcjaaSpecDigest
import Derived.Test.YtgeengkdgdjcjaaOwn
import Derived.StillTailTactics
namespace Go.Proofs.Ytgeengkdgdjcjaa
set_option maxHeartbeats 1000000
set_option linter.unusedSimpArgs false
open Go.RowKit
set_option linter.unusedVariables false
theorem bytes_ext {a b : ByteArray} (h : a.toList = b.toList) : a = b := by
 rw [ByteArray.toList_eq, ByteArray.toList_eq] at h
 obtain ⟨⟨x⟩⟩ := a
 obtain ⟨⟨y⟩⟩ := b
 have h : x = y := h
 rw [h]
theorem bytes_eq_iff {a b : ByteArray} : a.toList = b.toList ↔ a = b := ⟨bytes_ext, fun h => by rw [h]⟩
def EntryD.eqb (d e : EntryD) : Bool := (d.topic.toList == e.topic.toList) && (d.index == e.index) && (d.time == e.time) && (d.key.toList == e.key.toList) && (d.body.toList == e.body.toList)
theorem EntryD.eqb_iff (d e : EntryD) : d.eqb e = true ↔ d = e := by
 obtain ⟨a0, a1, a2, a3, a4⟩ := d
 obtain ⟨b0, b1, b2, b3, b4⟩ := e
 simp only [EntryD.eqb, Bool.and_eq_true, beq_iff_eq, bytes_eq_iff, EntryD.mk.injEq, and_assoc]
def PreD.eqb (d e : PreD) : Bool := (d.tag == e.tag) && (d.text.toList == e.text.toList)
theorem PreD.eqb_iff (d e : PreD) : d.eqb e = true ↔ d = e := by
 obtain ⟨a0, a1⟩ := d
 obtain ⟨b0, b1⟩ := e
 simp only [PreD.eqb, Bool.and_eq_true, beq_iff_eq, bytes_eq_iff, PreD.mk.injEq, and_assoc]
theorem PreD.eqb_self (d : PreD) : d.eqb d = true := (PreD.eqb_iff d d).2 rfl
theorem PreD.run_eql (d e : PreD) (w : World) : (binOp .eql 39 (.agg #[.int .i64 d.tag, .string d.text]) (.agg #[.int .i64 e.tag, .string e.text])).run Try.prog w = .ok (.bool (d.eqb e)) w := by
 go_simp
 unfold PreD.eqb
 (repeat' split) <;> simp [*]
theorem PreD.run_neq (d e : PreD) (w : World) : (binOp .neq 39 (.agg #[.int .i64 d.tag, .string d.text]) (.agg #[.int .i64 e.tag, .string e.text])).run Try.prog w = .ok (.bool (!(d.eqb e))) w := by
 go_simp
 unfold PreD.eqb
 (repeat' split) <;> simp [*]
def emptyR (n : Int) : ByteArray := digest n 5 ⟨#[]⟩
theorem emptyOk (n : Int) : digestOk n 5 ⟨#[]⟩ = inR n 1 32 := by
 have h1 : inR 5 0 255 = true := rfl
 have h2 : decide ((⟨#[]⟩ : ByteArray).size ≤ 4000) = true := rfl
 simp only [digestOk, h1, h2, Bool.and_true]
theorem specEmptyRoot_any (n : Int) (w : World) : Calls Try.prog 34 #[.int .i64 n] w fun e w' => e = .returned (.tuple #[.string (emptyR n), .bool (inR n 1 32)]) ∧ Ext w w' := by
 go_enter Try.func34, Try.ntmps34
 go_wp2_with fail
 refine (specDigest_any n 5 ⟨#[]⟩ _ (by decide)).mono ?_
 rintro e w1 ⟨rfl, h1⟩
 rw [emptyOk]
 go_wp2_with fail
 go_ret2
 exact ⟨rfl, h1⟩
theorem ne_of_beq {a b : Int} {p : Bool} (h : (a == b) = p) : (a != b) = !p := by rw [bne, h]
def sone (s : ByteArray) : List Value := [.string s]
theorem sone_length (s : ByteArray) : (sone s).length = 1 := rfl
def Keep (p : Nat → Prop) (w w' : World) : Prop := w.heap.size ≤ w'.heap.size ∧ ∀ b, p b → b < w.heap.size → w'.heap[b]? = w.heap[b]?
theorem Ext.keep {w w' : World} (he : Ext w w') (p : Nat → Prop) : Keep p w w' := ⟨he.size, fun b _ h => he.block b h⟩
def AnyB : Nat → Prop := fun _ => True
def FromB (B : Nat) : Nat → Prop := fun b => B ≤ b
structure SlF {α : Type} (p : Nat → Prop) (f : α → List Value) (size : Nat) (w : World) (A : Option Addr) (l : List α) (c : Nat) : Prop where
 le : l.length ≤ c
 cap : c ≤ maxLen
 reads : ReadsL w w.heap.size f size A l
 low : 0 < l.length → ∀ a, A = some a → p a.block
section
variable {α : Type} {p q : Nat → Prop} {f : α → List Value} {size : Nat} {w w' : World} {A : Option Addr} {l : List α} {c : Nat}
theorem SlF.keep (h : SlF p f size w A l c) (he : Keep p w w') : SlF p f size w' A l c := by
 obtain ⟨h1, h2, h3, h4⟩ := h
 refine ⟨h1, h2, ⟨h3.1, fun hn => ?_⟩, h4⟩
 obtain ⟨b, off, e, hb, hc⟩ := h3.2 hn
 exact ⟨b, off, e, Nat.lt_of_lt_of_le hb he.1, fun j u hu => (World.cell?_of_block (w := w) (he.2 b (h4 hn _ e) hb)).trans (hc j u hu)⟩
theorem SlF.ext (h : SlF p f size w A l c) (he : Ext w w') : SlF p f size w' A l c := h.keep (he.keep p)
theorem SlF.mono (h : SlF p f size w A l c) (hp : ∀ b, p b → q b) : SlF q f size w A l c := ⟨h.le, h.cap, h.reads, fun h0 a e => hp _ (h.low h0 a e)⟩
theorem SlF.any (h : SlF p f size w A l c) : SlF AnyB f size w A l c := h.mono fun _ _ => trivial
theorem SlF.nil (p : Nat → Prop) (f : α → List Value) (size : Nat) (w : World) : SlF p f size w none [] 0 := ⟨Nat.le_refl _, Nat.zero_le _, Reads.nil_, fun h => absurd h (Nat.lt_irrefl 0)⟩
end
abbrev Rep (α : Type) := (Nat → Prop) → World → List Value → α → Prop
section
variable {α : Type} {p q : Nat → Prop} {R : Rep α} {size : Nat} {w w' : World} {A : Option Addr} {l : List α} {c : Nat}
end
section
variable {α : Type} {R : Rep α} {size : Nat} {t : TypeId} {l : List α} {g : Nat} {Z : Array Value} {k : Nat} {wr w1 : World}
end

end Go.Proofs.Ytgeengkdgdjcjaa

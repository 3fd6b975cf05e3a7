/-
  CopyC; BrkOwn; StrS; MarkS; MarkBase; MarkEntry; MarkOwnEntry; MarkReceipt; MarkOwnReceipt; MarkHead; MarkOwnHead; MarkWrite; MarkOwnWrite; MarkSS; OwnMark; MarkRowB; BrkEn2; BrAns; ConvWrite: No condition.
-/
import Derived.Test.YthnpdoadmglipaaGreatBrkNew
import Derived.Test.YthnpdoadmglipaaGreatReopenR
import Derived.Test.YthnpdoadmglipaaGreatClientNw
import Derived.Test.YthnpdoadmglipaaGreatFramesLaw
import Derived.Test.YthnpdoadmglipaaGreatMem
import Derived.Test.YthnpdoadmglipaaGreatWords
import Derived.Test.YthnpdoadmglipaaGreatAppSrc
import Derived.Test.YthnpdoadmglipaaGreatFrm
import Derived.StillTailTactics
namespace Go.Proofs.YthnpdoadmglipaaGreat
set_option linter.unusedSimpArgs false
open Go.RowKit
set_option linter.unusedVariables false
structure BArg (p : Nat → Prop) (w : World) (b : BrokerD) (E0 : Option Addr) (e0 : Nat) (E1 : Option Addr) (e1 : Nat) (E2 : Option Addr) (e2 : Nat) (E3 : Option Addr) (e3 : Nat) (E4 : Option Addr) (e4 : Nat) : Prop where
 e : SlF p EntryD.cells 5 w E0 b.log.entries e0
 r : SlF p ReceiptD.cells 3 w E1 b.receipts e1
 h : SlF p HeadD.cells 5 w E2 b.heads e2
 u : SlF p sone 1 w E3 b.sealed.leaves.peaks e3
 v : SlF p sone 1 w E4 b.sealed.taken.peaks e4
theorem BArg.keep {p : Nat → Prop} {w w' : World} {b : BrokerD} {E0 E1 E2 E3 E4 : Option Addr} {e0 e1 e2 e3 e4 : Nat} (h : BArg p w b E0 e0 E1 e1 E2 e2 E3 e3 E4 e4) (he : Keep p w w') : BArg p w' b E0 e0 E1 e1 E2 e2 E3 e3 E4 e4 := ⟨h.e.keep he, h.r.keep he, h.h.keep he, h.u.keep he, h.v.keep he⟩
theorem BArg.ext {p : Nat → Prop} {w w' : World} {b : BrokerD} {E0 E1 E2 E3 E4 : Option Addr} {e0 e1 e2 e3 e4 : Nat} (h : BArg p w b E0 e0 E1 e1 E2 e2 E3 e3 E4 e4) (he : Ext w w') : BArg p w' b E0 e0 E1 e1 E2 e2 E3 e3 E4 e4 := ⟨h.e.ext he, h.r.ext he, h.h.ext he, h.u.ext he, h.v.ext he⟩
theorem BArg.any {p : Nat → Prop} {w : World} {b : BrokerD} {E0 E1 E2 E3 E4 : Option Addr} {e0 e1 e2 e3 e4 : Nat} (h : BArg p w b E0 e0 E1 e1 E2 e2 E3 e3 E4 e4) : BArg AnyB w b E0 e0 E1 e1 E2 e2 E3 e3 E4 e4 := ⟨h.e.any, h.r.any, h.h.any, h.u.any, h.v.any⟩
structure BSz (b : BrokerD) : Prop where
 e : b.log.entries.length ≤ 1048576
 r : b.receipts.length ≤ 1048576
 h : b.heads.length ≤ 1048576
 u : b.sealed.leaves.peaks.length ≤ 1048576
 v : b.sealed.taken.peaks.length ≤ 1048576
theorem put_whole {w : World} {g : Nat} {t : TypeId} {cs : Array Value} (h : Blk w g t cs) (vs : List Value) (hv : cs.size = vs.length) : Blk (w.setCells g 0 vs) g t vs.toArray :=
 h.put 0 vs vs.toArray (by omega) (by rw [List.take_zero, List.nil_append, List.drop_eq_nil_of_le (by rw [Array.length_toList]; omega), List.append_nil])
structure CpS (w : World) (g n : Nat) (T : TypeId) (cs : Array Value) (w' : World) : Prop where
 a : Blk w' g T cs
 z : ∃ ds : Array Value, ds.size = n ∧ Blk w' (g + 1) T ds
 x : Ext w w'
theorem CpS.ext {w w1 w2 : World} {g n : Nat} {T : TypeId} {cs : Array Value} (h : CpS w g n T cs w1) (he : Ext w1 w2) : CpS w g n T cs w2 := by
 obtain ⟨ds, h1, h2⟩ := h.z
 exact ⟨h.a.ext he, ⟨ds, h1, h2.ext he⟩, h.x.next he⟩
theorem CpS.there {w w1 : World} {g n : Nat} {T : TypeId} {cs : Array Value} (h : CpS w g n T cs w1) : w1.there (g + 1) 0 n := by
 obtain ⟨ds, h1, h2⟩ := h.z
 exact h2.there 0 n (by omega)
theorem CpS.lt {w w1 : World} {g n : Nat} {T : TypeId} {cs : Array Value} (h : CpS w g n T cs w1) : g + 2 ≤ w1.heap.size := by
 obtain ⟨ds, h1, h2⟩ := h.z
 exact h2.lt
theorem CpS.put {w w1 : World} {g n : Nat} {T : TypeId} {cs : Array Value} (h : CpS w g n T cs w1) (hg : w.heap.size ≤ g) (vs : List Value) (hv : n = vs.length) : CpS w g n T cs (w1.setCells (g + 1) 0 vs) ∧ Blk (w1.setCells (g + 1) 0 vs) (g + 1) T vs.toArray := by
 obtain ⟨ds, h1, h2⟩ := h.z
 have k := put_whole h2 vs (by omega)
 exact ⟨⟨h.a.farCells (by omega) vs 0, ⟨_, by simp [hv], k⟩, ext_setCells (by omega) vs 0 _ h.x⟩, k⟩
theorem row_far {w1 : World} {B K g e size n : Nat} {v : Value} {xs : List Value} (h : w1.ownsRow K e size v n xs) (hg : g < K) (hB : B ≤ K) (vs : List Value) (o : Nat) : (w1.setCells g o vs).ownsRow B e size v n xs :=
 ownsRow_base (ownsRow_far h (grow_setCells g vs o w1 w1 (World.grownBy.refl _ _)) hg) hB

theorem OwnS.reads {W w : World} {v : Value} {l : List ByteArray} (h : OwnS W w v l) : ∃ A c, v = .slice A l.length c ∧ Reads w w.heap.size 1 A l.length (svals l) := by
 obtain ⟨A, c, rfl, _⟩ := ownsRow_form h
 exact ⟨A, c, rfl, Reads.of_own h⟩
def decB : Nat → Nat → ByteArray → ByteArray
 | 0, _, t => t
 | f + 1, k, t => if k = 0 then t else decB f (k / 10) (ofInts [48 + (k : Int) % 10] ++ t)
def markB (k : Nat) : ByteArray := if k = 0 then ⟨#[109, 48]⟩ else ⟨#[109]⟩ ++ decB k k ⟨#[]⟩
section
variable {α : Type} {f : α → List Value} {size : Nat} {l : List α} {cs : Array Value} {k : Nat}
end
theorem Blk.has {w : World} {g t : Nat} {cs : Array Value} (h : Blk w g t cs) {i : Nat} (hi : i < cs.size) : ∃ v, w.cell? ⟨g, i, none⟩ = some v := ⟨_, by rw [h.cell]; exact Array.getElem?_eq_getElem hi⟩
def EntryD.mk_ (k : Nat) : EntryD := ⟨markB k, ((k + 1 : Nat) : Int), ((k + 2 : Nat) : Int), markB (k + 3), markB (k + 4)⟩
def EntryD.mkL (k n : Nat) : List EntryD := (List.range n).map (fun i => EntryD.mk_ (k + i * 5))

def ReceiptD.mk_ (k : Nat) : ReceiptD := ⟨markB k, markB (k + 1), ((k + 2 : Nat) : Int)⟩
def ReceiptD.mkL (k n : Nat) : List ReceiptD := (List.range n).map (fun i => ReceiptD.mk_ (k + i * 3))

def HeadD.mk_ (k : Nat) : HeadD := ⟨(k : Int), ((k + 1 : Nat) : Int), markB (k + 2), ((k + 3 : Nat) : Int), markB (k + 4)⟩
def HeadD.mkL (k n : Nat) : List HeadD := (List.range n).map (fun i => HeadD.mk_ (k + i * 5))

def WriteD.mk_ (k : Nat) : WriteD := ⟨(k : Int), ((k + 1 : Nat) : Int), markB (k + 2)⟩
def WriteD.mkL (k n : Nat) : List WriteD := (List.range n).map (fun i => WriteD.mk_ (k + i * 3))

def mkd (cs : Array Value) (k : Nat) : Nat → Array Value
 | 0 => cs
 | i + 1 => (mkd cs k i).setIfInBounds i (.string (markB (k + i)))
def Marked (w : World) (v : Value) (n : Nat) : Prop := (v = .slice none 0 0 ∧ n = 0) ∨ ∃ g c cs, v = .slice (some ⟨g, 0, none⟩) n c ∧ Blk w g 9 (mkd cs 1 n) ∧ n ≤ cs.size
theorem Marked.ext {w w' : World} {v : Value} {n : Nat} (h : Marked w v n) (he : Ext w w') : Marked w' v n := by
 rcases h with h | ⟨g, c, cs, h1, h2, h3⟩
 · exact .inl h
 · exact .inr ⟨g, c, cs, h1, h2.ext he, h3⟩
def InBlock (v : Value) : Nat → Prop := fun b => v.ownBlock = some b
def SMk (w : World) (v : Value) (k n : Nat) : Prop := (v = .slice none 0 0 ∧ n = 0) ∨ ∃ g c cs, v = .slice (some ⟨g, 0, none⟩) n c ∧ Blk w g 9 (mkd cs k n) ∧ n ≤ cs.size
theorem SMk.ext {w w' : World} {v : Value} {k n : Nat} (h : SMk w v k n) (he : Ext w w') : SMk w' v k n := by
 rcases h with h | ⟨g, c, cs, h1, h2, h3⟩
 · exact .inl h
 · exact .inr ⟨g, c, cs, h1, h2.ext he, h3⟩
def FMk {α : Type} (f : α → List Value) (size : Nat) (mk : Nat → Nat → List α) (w : World) (v : Value) (k m : Nat) : Prop := ∃ A c, v = .slice A m c ∧ SlF (InBlock v) f size w A (mk k m) c
section
variable {α : Type} {f : α → List Value} {size : Nat} {mk : Nat → Nat → List α}
theorem FMk.ext {w w' : World} {v : Value} {k m : Nat} (h : FMk f size mk w v k m) (he : Ext w w') : FMk f size mk w' v k m := by obtain ⟨A, c, h1, h2⟩ := h; exact ⟨A, c, h1, h2.ext he⟩
end
structure BMk (w : World) (b : BrokerD) (ve vr vh v1 v2 : Value) (k : Nat) : Prop where
 e : FMk EntryD.cells 5 EntryD.mkL w ve k b.log.entries.length
 r : FMk ReceiptD.cells 3 ReceiptD.mkL w vr (k + b.log.entries.length * 5) b.receipts.length
 h : FMk HeadD.cells 5 HeadD.mkL w vh (k + b.log.entries.length * 5 + b.receipts.length * 3) b.heads.length
 p : SMk w v1 (k + b.log.entries.length * 5 + b.receipts.length * 3 + b.heads.length * 5) b.sealed.leaves.peaks.length
 q : SMk w v2 (k + b.log.entries.length * 5 + b.receipts.length * 3 + b.heads.length * 5 + b.sealed.leaves.peaks.length) b.sealed.taken.peaks.length
theorem BMk.ext {w w' : World} {b : BrokerD} {ve vr vh v1 v2 : Value} {k : Nat} (h : BMk w b ve vr vh v1 v2 k) (he : Ext w w') : BMk w' b ve vr vh v1 v2 k := ⟨h.e.ext he, h.r.ext he, h.h.ext he, h.p.ext he, h.q.ext he⟩
def BBlk (ve vr vh v1 v2 : Value) (x : Nat) : Prop := InBlock ve x ∨ InBlock vr x ∨ InBlock vh x ∨ InBlock v1 x ∨ InBlock v2 x
def BrAns (B : BrokerD) (W : List WriteD) (c : Nat) (w : World) (e : Ending) (w' : World) : Prop :=
 ∃ ve vr vh v1 v2 vw, e = .returned (.tuple #[.agg (brkCs B ve vr vh v1 v2).toArray, vw, .int .i64 (c : Int)]) ∧ BRows w.heap.size w' B ve vr vh v1 v2 ∧ (∀ x, v1.ownBlock = some x → v2.ownBlock ≠ some x) ∧ w'.ownsRow w.heap.size 79 3 vw W.length (W.flatMap WriteD.cells) ∧ Ext w w'
theorem BrAns.bad {w w' : World} {e : Ending} {vw : Value} {k : Nat} (he : e = .returned (.tuple #[.agg #[.int .i64 0, .slice none 0 0, .slice none 0 0, .slice none 0 0, .int .i64 0, .slice none 0 0, .int .i64 0, .slice none 0 0, .int .i64 0, .int .i64 0, .string ⟨#[]⟩, .int .i64 0, .string ⟨#[]⟩], vw, .int .i64 (k : Int)])) (ho : w'.ownsRow w.heap.size 79 3 vw 0 []) (hx : Ext w w') : BrAns noB [] k w e w' :=
 ⟨_, _, _, _, _, vw, he, BRows.zero _ _, (fun x h => by cases h), ho, hx⟩
theorem ret_brk {P : Program} {fn : Func} {R : Ending → World → Prop} {a : Act} {w : World} {p u v : Tmp} {ty g t : Nat} {cs : Array Value} {d : TypeDesc} (h : fn.results = #[.cell p ty, .tmp u, .tmp v])
 (hp : a.tmps.getD p undef = .pointer (some ⟨g, 0, none⟩)) (hB : Blk w g t cs) (hu : P.underlying ty = some d) (hd : (match d with | .struct _ | .array _ _ => true | _ => false) = true) (hi : (P.info? ty).map (·.size) = some cs.size)
 (hdef : a.defers = []) (hR : R (.returned (.tuple #[.agg cs, a.tmps.getD u undef, a.tmps.getD v undef])) w) : bodyPost P fn R .ret a w := by
 refine bodyPost_ret (v := .tuple #[.agg cs, a.tmps.getD u undef, a.tmps.getD v undef]) ?_ hdef hR
 have hp' : a.tmps[p]?.getD undef = .pointer (some ⟨g, 0, none⟩) := by simpa using hp
 simp [results, h, hp', asAddr, Sem.run_bind, Result.andThen, run_loadVar_row w g t ty cs (0, 0) d hB hu hd hi]

end Go.Proofs.YthnpdoadmglipaaGreat

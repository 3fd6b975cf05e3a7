/-
  PartsB; SameC; BrkI; SealT: No condition.
-/
import Derived.Test.YthnpdoadmglipaaGreatRecs
import Derived.Test.YthnpdoadmglipaaGreatSealB
import Derived.Test.YthnpdoadmglipaaGreatHeadsOk2
import Derived.Test.YthnpdoadmglipaaGreatHeadRead
import Derived.Test.YthnpdoadmglipaaGreatBunch
import Derived.Test.YthnpdoadmglipaaGreatFollowsB
import Derived.Test.YthnpdoadmglipaaGreatBrkNew
import Derived.Test.YthnpdoadmglipaaGreatConvWrite
namespace Go.Proofs.YthnpdoadmglipaaGreat
set_option linter.unusedSimpArgs false
open Go.RowKit
set_option linter.unusedVariables false
def BrkC (w : World) (g : Nat) (b : BrokerD) (A0 : Option Addr) (c0 : Nat) (A1 : Option Addr) (c1 : Nat) (A2 : Option Addr) (c2 : Nat) : Prop :=
 g < w.heap.size ∧ w.cell? ⟨g, 0, none⟩ = some (.int .i64 b.width) ∧ w.cell? ⟨g, 1, none⟩ = some (.slice A0 b.log.entries.length c0) ∧ w.cell? ⟨g, 2, none⟩ = some (.slice A1 b.receipts.length c1) ∧ w.cell? ⟨g, 3, none⟩ = some (.slice A2 b.heads.length c2)
theorem BrkC.ext {w w' : World} {g : Nat} {b : BrokerD} {A0 : Option Addr} {c0 : Nat} {A1 : Option Addr} {c1 : Nat} {A2 : Option Addr} {c2 : Nat} (h : BrkC w g b A0 c0 A1 c1 A2 c2) (he : Ext w w') : BrkC w' g b A0 c0 A1 c1 A2 c2 := by
 obtain ⟨h1, h2, h3, h4, h5⟩ := h
 exact ⟨Nat.lt_of_lt_of_le h1 he.size, (he.cell (p := ⟨g, 0, none⟩) h1).trans h2, (he.cell (p := ⟨g, 1, none⟩) h1).trans h3, (he.cell (p := ⟨g, 2, none⟩) h1).trans h4, (he.cell (p := ⟨g, 3, none⟩) h1).trans h5⟩
theorem blk_world {w : World} {g t : Nat} {cs : Array Value} (h : Blk w g t cs) : ∃ w6, w6 = w := ⟨w, rfl⟩
def SealAns (b : BrokerD) (LH TH : List ByteArray) (w0 : World) (cs : List Value) (w : World) : Prop :=
 sealsB b.width LH TH b.heads = true → ∃ v1 v2, cs = sealCs (sealPrev b.width LH TH b.heads b.heads.length).leaves.size v1 (sealPrev b.width LH TH b.heads b.heads.length).taken.size v2 (sealPrev b.width LH TH b.heads b.heads.length).head ∧
  RowT w0.heap.size w v1 (sealPrev b.width LH TH b.heads b.heads.length).leaves.peaks ∧ RowT w0.heap.size w v2 (sealPrev b.width LH TH b.heads b.heads.length).taken.peaks ∧ (∀ x, v1.ownBlock = some x → v2.ownBlock ≠ some x)
theorem SealAns.ext {b : BrokerD} {LH TH : List ByteArray} {w0 w w' : World} {cs : List Value} (h : SealAns b LH TH w0 cs w) (he : Ext w w') : SealAns b LH TH w0 cs w' := fun hb => by
 obtain ⟨v1, v2, e, r1, r2, ap⟩ := h hb
 exact ⟨v1, v2, e, r1.ext he, r2.ext he, ap⟩
theorem SealAns.set {b : BrokerD} {LH TH : List ByteArray} {w0 w : World} {cs : List Value} {q : Nat} {xs : Array Value} {ys : List Value} {o : Nat} (h : SealAns b LH TH w0 cs w) (hq : Blk w q 35 xs) : SealAns b LH TH w0 cs (w.setCells q o ys) := fun hb => by
 obtain ⟨v1, v2, e, r1, r2, ap⟩ := h hb
 have hk5 : Frm (fun b => b = q) w (w.setCells q o ys) := Frm.setCells (X := fun b => b = q) (Frm.refl _ w) (g := q) (fun _ => rfl) _ _
 exact ⟨v1, v2, e, hk5.own r1 (fun b hb => RowT.apart r1 hq (by decide) b hb), hk5.own r2 (fun b hb => RowT.apart r2 hq (by decide) b hb), ap⟩
def sealV (s : SealD) (A1 : Option Addr) (c1 : Nat) (A2 : Option Addr) (c2 : Nat) : List Value := [.int .i64 s.leaves.size, .slice A1 s.leaves.peaks.length c1, .int .i64 s.taken.size, .slice A2 s.taken.peaks.length c2, .int .i64 s.head.number, .int .i64 s.head.size, .string s.head.root, .int .i64 s.head.taken, .string s.head.takenRoot]

def snCode (b : BrokerD) : Nat := if brokerB b then slCode b else 1
def snB (b : BrokerD) : BrokerD := if snCode b = 0 then slB b else noB
def snW (b : BrokerD) : List WriteD := if snCode b = 0 then [writeW b 1 (headText b.width (slHead b))] else []
theorem sn_bad {b : BrokerD} {k : Nat} (h : snCode b = k) (h0 : k ≠ 0) : snB b = noB ∧ snW b = [] := by
 have : ¬ snCode b = 0 := by omega
 exact ⟨by rw [snB, if_neg this], by rw [snW, if_neg this]⟩
theorem sn_good {b : BrokerD} (h : snCode b = 0) : snB b = slB b ∧ snW b = [writeW b 1 (headText b.width (slHead b))] := ⟨by rw [snB, if_pos h], by rw [snW, if_pos h]⟩
theorem sn_end {b : BrokerD} {k : Nat} {w w' : World} {e : Ending} {vw : Value} (h : snCode b = k) (h0 : k ≠ 0) (he : e = .returned (.tuple #[.agg #[.int .i64 0, .slice none 0 0, .slice none 0 0, .slice none 0 0, .int .i64 0, .slice none 0 0, .int .i64 0, .slice none 0 0, .int .i64 0, .int .i64 0, .string ⟨#[]⟩, .int .i64 0, .string ⟨#[]⟩], vw, .int .i64 (k : Int)])) (ho : w'.ownsRow w.heap.size 79 3 vw 0 []) (hx : Ext w w') : BrAns (snB b) (snW b) (snCode b) w e w' := by
 rw [(sn_bad h h0).1, (sn_bad h h0).2, h]; exact BrAns.bad he ho hx
end Go.Proofs.YthnpdoadmglipaaGreat

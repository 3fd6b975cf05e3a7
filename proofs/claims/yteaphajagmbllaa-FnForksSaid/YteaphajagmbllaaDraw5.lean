/-
  The reference's drawing: hashes, heads. Written by program (gen_draw5.py). No condition.
-/
import Derived.Test.YteaphajagmbllaaDraw4
import Derived.Test.YteaphajagmbllaaClientNw
namespace Go.Proofs.Yteaphajagmbllaa
open Go.RowKit
set_option linter.unusedVariables false

set_option maxHeartbeats 2000000 in
theorem l03Hash_any (B g : Nat) (A : Option Addr) (c : Nat) (l : List Int) (n : Nat) (w : World) (h1 : 1 ≤ n) (h2 : n ≤ 32) (hC : CurAt w B g A c l) :
    Calls Try.prog 99 #[.pointer (some ⟨g, 0, none⟩), .int .i64 (n : Int)] w fun e w' => ∃ s : ByteArray, s.size ≤ 40 ∧ e = .returned (.string s) ∧ CurAt w' B g A c l ∧ ExtBut g w w' := by
  have hin : inR (n : Int) 1 32 = true := by simp [inR]; omega
  go_enter Try.func99, Try.ntmps99
  go_wp2_with (go_at_call 68; refine (l02Width_any _ _).mono ?_; rintro e w' ⟨rfl, rfl⟩; rw [hin])
  refine (l01Once_any B g A c l 40 _ (by decide) (by decide) hC).mono ?_
  rintro e w1 ⟨b, rfl, C1, k1⟩
  cases b
  · go_wp2_with fail
    refine (l01Text_any B g A c l n _ (by omega) C1).mono ?_
    rintro e w2 ⟨s, hs, rfl, C2, k2⟩
    go_wp2_with fail
    go_ret
    exact ⟨s, by omega, rfl, C2, k1.next k2⟩
  · go_wp2_with fail
    refine (l01Below_any B g A c l 3 _ (by decide) (by decide) C1).mono ?_
    rintro e w2 ⟨x, ⟨hx0, hx1⟩, rfl, C2, k2⟩
    have e1 : (n : Int) + x - 1 = ((n + x.toNat - 1 : Nat) : Int) := by omega
    go_wp2_with fail
    refine (l01Text_any B g A c l (n + x.toNat - 1) _ (by omega) C2).mono ?_
    rintro e w3 ⟨s, hs, rfl, C3, k3⟩
    go_wp2_with fail
    go_ret
    exact ⟨s, by omega, rfl, C3, (k1.next k2).next k3⟩
/-- A drawn head in block v, the result's cells in block r, the cursor in block g. -/
def LH (W : World) (B g r v : Nat) (A : Option Addr) (c : Nat) (l : List Int) (h : HeadD) (wx : World) : Prop :=
  CurAt wx B g A c l ∧ Blk wx v 42 #[.int .i64 h.number, .int .i64 h.size, .string h.root, .int .i64 h.taken, .string h.takenRoot] ∧ Blk wx r 42 #[.int .i64 0, .int .i64 0, .string ⟨#[]⟩, .int .i64 0, .string ⟨#[]⟩] ∧ ExtBut g W wx
section
variable {W w1 w2 : World} {B g r v : Nat} {A : Option Addr} {c : Nat} {l : List Int} {h : HeadD}
theorem LH.call (k0 : LH W B g r v A c l h w1) (hr : r ≠ g) (hv : v ≠ g) (C : CurAt w2 B g A c l) (k : ExtBut g w1 w2) : LH W B g r v A c l h w2 :=
  ⟨C, k0.2.1.extBut k hv, k0.2.2.1.extBut k hr, k0.2.2.2.next k⟩
theorem LH.ext (k0 : LH W B g r v A c l h w1) (k : Ext w1 w2) : LH W B g r v A c l h w2 :=
  ⟨k0.1.ext k, k0.2.1.ext k, k0.2.2.1.ext k, k0.2.2.2.next (ExtBut.of_ext k)⟩
theorem ExtBut.setNew_ (h : ExtBut g W w1) {p : Addr} (hp : W.heap.size ≤ p.block) (u : Value) : ExtBut g W (w1.setCell p u) :=
  ⟨h.os, h.tape, h.output, by simpa [World.setCell] using h.size, fun k hk hne => (Below.heap_setCell w1 p u k (by omega)).trans (h.block k hk hne)⟩
theorem ExtBut.setCellsNew_ {q : Nat} (hq : W.heap.size ≤ q) : ∀ (vs : List Value) (o : Nat) (w : World), ExtBut g W w → ExtBut g W (w.setCells q o vs)
  | [], _, _, h => h
  | u :: vs, o, w, h => ExtBut.setCellsNew_ hq vs (o + 1) _ (ExtBut.setNew_ h (p := ⟨q, o, none⟩) hq u)
theorem LH.set_ (k0 : LH W B g r v A c l h w1) (hW : W.heap.size ≤ v) (hB : B ≤ v) (hg : g ≠ v) (hr : r ≠ v) (i : Nat) (u : Value) (h' : HeadD) (e : (#[.int .i64 h.number, .int .i64 h.size, .string h.root, .int .i64 h.taken, .string h.takenRoot] : Array Value).setIfInBounds i u = #[.int .i64 h'.number, .int .i64 h'.size, .string h'.root, .int .i64 h'.taken, .string h'.takenRoot]) : LH W B g r v A c l h' (w1.setCell ⟨v, i, none⟩ u) := by
  refine ⟨k0.1.far (p := v) hB hg [u] i, ?_, k0.2.2.1.far (p := ⟨v, i, none⟩) (by simpa using hr) u, ExtBut.setNew_ k0.2.2.2 hW u⟩
  have := k0.2.1.set_ i u
  rw [e] at this
  exact this
end
/-- Numbers and texts of a drawn head. -/
def HeadIn (h : HeadD) : Prop := (-1 ≤ h.number ∧ h.number ≤ 600) ∧ (-1 ≤ h.size ∧ h.size ≤ 600) ∧ h.root.size ≤ 40 ∧ (-1 ≤ h.taken ∧ h.taken ≤ 600) ∧ h.takenRoot.size ≤ 40
theorem HeadIn.ok {h : HeadD} (k : HeadIn h) : h.Ok := by
  obtain ⟨⟨a, b⟩, ⟨c, d⟩, e, ⟨f, g⟩, i⟩ := k
  refine ⟨?_, ?_, by unfold maxLen; omega, ?_, by unfold maxLen; omega⟩
  all_goals
    simp [Lit.wf, IntKind.min, IntKind.max, IntKind.signed, IntKind.bits]
    omega
end Go.Proofs.Yteaphajagmbllaa

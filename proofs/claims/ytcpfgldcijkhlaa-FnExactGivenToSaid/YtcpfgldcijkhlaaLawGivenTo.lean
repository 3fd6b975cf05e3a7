/-
  The program's GivenTo returns what the reference's returns, for all arguments. No condition.
-/
import Derived.Test.YtcpfgldcijkhlaaRows
import Derived.Test.YtcpfgldcijkhlaaFacts
import Derived.Test.YtcpfgldcijkhlaaMarkOwnEntry
import Derived.Test.YtcpfgldcijkhlaaMarkGiven
import Derived.Test.YtcpfgldcijkhlaaConvGiven
namespace Go.Proofs.Ytcpfgldcijkhlaa
open Go.RowKit Go.WideShapes Go.ChangeAt
set_option linter.unusedVariables false

/-- What stands below a place stays there while a row above it, or one block, is written. -/
theorem SlF.keepBelow {α : Type} {p : Nat → Prop} {f : α → List Value} {size B : Nat} {w w' : World} {A : Option Addr} {l : List α} {c : Nat} (h : SlF (fun b => b < B) f size w A l c) (he : Below B w w') : SlF (fun b => b < B) f size w' A l c :=
  h.keep ⟨he.size, fun b hb _ => he.block b hb⟩
theorem SlF.lt {α : Type} {p : Nat → Prop} {f : α → List Value} {size : Nat} {w : World} {A : Option Addr} {l : List α} {c : Nat} (h : SlF p f size w A l c) : SlF (fun b => b < w.heap.size) f size w A l c :=
  ⟨h.le, h.cap, h.reads, fun h0 a e => by obtain ⟨b, off, e2, hb, _⟩ := h.reads.2 h0; rw [e] at e2; cases e2; exact hb⟩
theorem ExtBut.below {g B : Nat} {w w' : World} (h : ExtBut g w w') (hB : B ≤ g) (hw : B ≤ w.heap.size) : Below B w w' := ⟨h.os, h.tape, h.output, h.size, fun b hb => h.block b (by omega) (by simp; omega)⟩
theorem ownsRow_kept {W w w' : World} {g e size n : Nat} {v : Value} {xs : List Value} (h : w.ownsRow W.heap.size e size v n xs) (k : ExtBut g w w') (hg : g < W.heap.size) : w'.ownsRow W.heap.size e size v n xs := by
  refine ⟨h.1, ?_⟩
  rcases h.2 with h1 | ⟨b, cap, cur, hv, hb, hh, hrest⟩
  · exact .inl h1
  · exact .inr ⟨b, cap, cur, hv, hb, (k.block b (Blk.lt (t := e) (cs := cur) hh) (by simp; omega)).trans hh, hrest⟩
theorem ReadsL.ext' {α : Type} {w w' : World} {size n : Nat} {f : α → List Value} {A : Option Addr} {l : List α} (h : ReadsL w w.heap.size f size A l) (he : Ext w w') (_ : l.length = n) : ReadsL w' w'.heap.size f size A l := h.ext he
set_option maxHeartbeats 4000000 in
set_option maxRecDepth 100000 in
theorem lawGivenTo_walk (A : Option Addr) (c : Nat) (a : List GivenD) (who : Int) (topic : ByteArray) (w : World) (hr : ReadsL w w.heap.size GivenD.cells 7 A a) (ha : ∀ d ∈ a, d.Ok) (hca : a.length ≤ c) (hc : c ≤ maxLen) (ht : topic.size ≤ maxLen) :
    Calls Try.prog 5 #[.slice A a.length c, .int .i64 who, .string topic] w fun e w' => e = .returned (.bool true) ∧ Ext w w' := by
  have Ha := Lib.hid ha; clear ha
  unfold maxLen at ht
  by_cases s0 : 1048576 < topic.size
  · go_enter Try.func5, Try.ntmps5
    go_wp2_with fail
    go_ret
    exact ⟨rfl, Below.refl _ _⟩
  by_cases s1 : szL (a.length :: a.flatMap GivenD.lens) 1048576 < 0
  · go_enter Try.func5, Try.ntmps5
    go_wp2_with fail
    refine (szGivenS_any A c a _ _ hr Ha.out (by omega) (by decide) (by decide)).mono ?_
    rintro e w1 ⟨rfl, he⟩
    go_wp2_with fail
    go_ret
    exact ⟨rfl, he⟩
  have hla := szL_first (by decide) s1
  have hgl := givenTo_len a who topic
  have SP := Lib.hid (fun A c w h => specGivenTo_any A c a who topic w h hla)
  have IM := Lib.hid (fun A c w h => implGivenTo_any A c a who topic w h hla)
  generalize givenTo a who topic = l at SP IM hgl
  have hll : l.length ≤ 1048576 := by omega
  go_enter Try.func5, Try.ntmps5
  go_wp2_with fail
  refine (szGivenS_any A c a _ _ hr Ha.out (by omega) (by decide) (by decide)).mono ?_
  rintro e w1 ⟨rfl, he⟩
  go_wp2_with fail
  refine (toGivenS_any A c a _ (hr.ext he) hla).mono ?_
  rintro e w2 ⟨y0, rfl, _, b0, h1⟩
  replace he := he.next h1; clear h1
  go_wp2_with fail
  refine (SP.out _ _ _ (b0.readsL GivenD.cells_length)).mono ?_
  rintro e w3 ⟨y, rfl, oy, h1⟩
  replace he := he.next h1; clear h1 b0
  obtain ⟨Y, cy, rfl, sy⟩ := oy.slf
  clear oy
  go_wp2_with fail
  refine (toGivenS_any A c a _ (hr.ext he) hla).mono ?_
  rintro e w4 ⟨x0, rfl, hx0, bx, h1⟩
  have sy1 := sy.lt.mono (q := fun b => b < x0) (fun b hb => by omega)
  have sy2 := sy1.ext h1
  have hwx : w.heap.size ≤ x0 := Nat.le_trans he.size hx0
  replace he := he.next h1; clear h1 sy sy1 hx0
  go_wp2_with fail
  refine (IM.out _ _ _ (bx.readsL GivenD.cells_length)).mono ?_
  rintro e w5 ⟨x, rfl, ox, h1⟩
  have hx4 : x0 < w4.heap.size := bx.lt
  replace he := he.next h1; replace bx := bx.ext h1; have sy3 := sy2.ext h1; have E45 := h1; clear h1 sy2
  obtain ⟨X, cx, rfl, sx⟩ := ox.slf
  go_wp2_with fail
  refine (eqEntryS_same X Y cx cy l _ sx.reads sy3.reads hll).mono ?_
  rintro e w6 ⟨rfl, h1⟩
  replace he := he.next h1; replace bx := bx.ext h1; replace sy3 := sy3.ext h1; replace sx := sx.ext h1; replace ox := ox.ext h1; replace E45 := E45.next h1; clear h1
  go_wp2_with fail
  refine (toGivenS_any A c a _ (hr.ext he) hla).mono ?_
  rintro e w7 ⟨z0, rfl, _, b1, h1⟩
  replace he := he.next h1; replace bx := bx.ext h1; replace sy3 := sy3.ext h1; replace sx := sx.ext h1; replace ox := ox.ext h1; replace E45 := E45.next h1; clear h1
  go_wp2_with fail
  refine (eqGivenS_same _ _ _ _ a _ (bx.readsL GivenD.cells_length) (b1.readsL GivenD.cells_length) hla).mono ?_
  rintro e w8 ⟨rfl, h1⟩
  replace he := he.next h1; replace bx := bx.ext h1; replace sy3 := sy3.ext h1; replace sx := sx.ext h1; replace ox := ox.ext h1; replace E45 := E45.next h1; clear h1 b1
  go_wp2_with fail
  refine (markGivenS_any x0 a.length a.length 1 _ _ bx (by simp [flat_len GivenD.cells 7 GivenD.cells_length]) hla (by decide)).mono ?_
  rintro e w9 ⟨rfl, _, h1⟩
  have hw8 : w4.heap.size ≤ w8.heap.size := E45.size
  replace sy3 := sy3.keepBelow (p := AnyB) (h1.below (Nat.le_refl _) (by omega))
  replace sx := sx.keep (w' := w9) ⟨h1.size, fun b hb hb2 => h1.block b hb2 (by unfold FromB at hb; simp; omega)⟩
  have ox9 : OwnF EntryD.cells 5 25 w4 w9 (.slice X l.length cx) l := ownsRow_kept ox h1 hx4
  replace he := he.nextBut hwx h1
  have hw9 : w4.heap.size ≤ w9.heap.size := Nat.le_trans hw8 h1.size
  clear h1 ox bx E45
  have q0 : (0 : Int) ≤ ((1 + a.length * 7 : Nat) : Int) := by omega
  go_wp2_with fail
  refine (eqEntryS_same X Y cx cy l _ sx.reads sy3.reads hll).mono ?_
  rintro e w10 ⟨rfl, h1⟩
  replace he := he.next h1; replace sy3 := sy3.ext h1; replace ox9 := ox9.ext h1; have hw10 := Nat.le_trans hw9 h1.size; clear h1 sx
  go_wp2_with fail
  refine (markEntryS_own ox9 hw10 hll).mono ?_
  rintro e w11 ⟨rfl, ⟨X', cx', hX, rx⟩, h1⟩
  obtain ⟨rfl, rfl⟩ : X = X' ∧ cx = cx' := by simpa using hX
  replace sy3 := sy3.keepBelow (p := AnyB) (h1.mono (by omega))
  replace he : Ext w w11 := he.trans (h1.mono (by omega))
  clear h1 ox9 hX
  have q1 : (0 : Int) ≤ ((1 + l.length * 5 : Nat) : Int) := by omega
  go_wp2_with fail
  refine (heldEntryS_any X l.length cx 1 _ rx hll (by decide)).mono ?_
  rintro e w12 ⟨rfl, h1⟩
  replace he := he.next h1; replace sy3 := sy3.ext h1; replace rx := ReadsL.ext' rx h1 (EntryD.mkL_len _ _); clear h1
  go_wp2_with fail
  refine (toGivenS_any A c a _ (hr.ext he) hla).mono ?_
  rintro e w13 ⟨z1, rfl, _, b1, h1⟩
  replace he := he.next h1; replace sy3 := sy3.ext h1; replace rx := ReadsL.ext' rx h1 (EntryD.mkL_len _ _); clear h1
  go_wp2_with fail
  refine (IM.out _ _ _ (b1.readsL GivenD.cells_length)).mono ?_
  rintro e w14 ⟨z, rfl, oz, h1⟩
  replace he := he.next h1; replace sy3 := sy3.ext h1; replace rx := ReadsL.ext' rx h1 (EntryD.mkL_len _ _); clear h1 b1
  obtain ⟨Z, cz, rfl, sz⟩ := oz.slf
  go_wp2_with fail
  refine (eqEntryS_same Z Y cz cy l _ sz.reads sy3.reads hll).mono ?_
  rintro e w15 ⟨rfl, h1⟩
  replace he := he.next h1; replace rx := ReadsL.ext' rx h1 (EntryD.mkL_len _ _); clear h1 oz sz sy3
  go_wp2_with fail
  refine (heldEntryS_any X l.length cx 1 _ rx hll (by decide)).mono ?_
  rintro e w16 ⟨rfl, h1⟩
  replace he := he.next h1
  go_wp2_with fail
  go_ret
  exact ⟨rfl, he⟩

set_option maxRecDepth 100000 in
theorem GivenTo_holds : Rows.FnExactGivenToSaid :=
  lawOver (p := Try.pinned) (c := Rows.fnExactGivenToRow) (s := Rows.fnExactGivenToSpec) 5 Try.f5 4
    own laidOut (by kernel_rfl) (by kernel_rfl) rfl rfl Try.underlying4
    (fun H ds h => by match ds, h with | [d0, d1, d2], _ => rfl)
    rfl rfl rfl rfl rfl rfl rfl ⟨rfl, rfl, rfl, rfl, rfl⟩ rfl rfl rfl rfl rfl (by kernel_rfl) Try.func5 (by kernel_rfl)
    (of_decide_eq_true (by kernel_rfl)) (by unfold Func.isWrapper; rw [if_neg (of_decide_eq_false (by kernel_rfl))]; exact ⟨rfl, rfl⟩)
    rfl rfl (fun _ _ => rfl) rfl rfl rfl rfl
    (fun os started H enc => ChangeSpec.witness6 (enc := enc) (C := Try.checked) false ⟨#[], #[.slice none 0 0, .int .i64 0, .string ⟨#[]⟩], []⟩ 20 (by kernel_rfl) (by kernel_rfl) (by kernel_rfl) (by kernel_rfl))
    (fun W args h => by
      have hs := h.size
      obtain ⟨l⟩ := args
      match l, hs with
      | [v0, v1, v2], _ =>
        obtain ⟨base0, n0, o0, t0⟩ := h.arg 0 53 v0 rfl rfl
        obtain ⟨base1, n1, o1, t1⟩ := h.arg 1 3 v1 rfl rfl
        obtain ⟨base2, n2, o2, t2⟩ := h.arg 2 9 v2 rfl rfl
        obtain ⟨A0, l0, c0, rfl⟩ := okWide_slice Try.underlying53 o0
        obtain ⟨B0, d0, a, e0, x0, y0, r0, k0⟩ := typed_slice GivenD.cells GivenD.Ok 7 Try.underlying53 (by kernel_rfl) (by decide) GivenD.cells_length (fun m es h => GivenD.typed h) t0
        obtain ⟨rfl, rfl, rfl⟩ : A0 = B0 ∧ l0 = a.length ∧ c0 = d0 := by simpa [Value.cells] using e0
        obtain ⟨a1, rfl⟩ := okWide_int Try.underlying3 o1
        obtain ⟨a2, rfl⟩ := okWide_string Try.underlying9 o2
        obtain ⟨s2, e2, h2⟩ := typed_string Try.underlying9 t2
        obtain rfl : a2 = s2 := by simpa [Value.cells] using e2
        exact lawGivenTo_walk A0 c0 a a1 a2 W r0 k0 x0 y0 h2)
#print axioms GivenTo_holds
end Go.Proofs.Ytcpfgldcijkhlaa

/-
  The program's DarkNew returns what the reference's returns, for all arguments. No condition.
-/
import Derived.Test.YtkcjhfidgnbdiaaRows
import Derived.Test.YtkcjhfidgnbdiaaSmall
import Derived.Test.YtkcjhfidgnbdiaaDarkEnd
import Derived.Test.YtkcjhfidgnbdiaaNDark
import Derived.Test.YtkcjhfidgnbdiaaPre
import Derived.Test.YtkcjhfidgnbdiaaMeetImpl
namespace Go.Proofs.Ytkcjhfidgnbdiaa
set_option linter.unusedSimpArgs false
open Go.RowKit Go.WideShapes Go.ChangeAt
set_option linter.unusedVariables false

theorem svals_flat : ∀ l : List ByteArray, svals l = l.flatMap sone
  | [] => rfl
  | a :: l => by simp [svals, sone, ← svals_flat l]
def CliZ.up (d : CliZ) : ClientD := ⟨d.width, d.name, d.head, []⟩
def ScnZ.up (d : ScnZ) : ScannerD := ⟨d.client.up, d.leaf, []⟩
theorem slN_cli {p : Nat → Prop} {w : World} {A : Option Addr} {c : Nat} {l : List CliZ} (h : SlF p CliZ.cells 8 w A l c) : SlN p ClientD.In 8 w A (l.map CliZ.up) c := by
  refine ⟨by simpa using h.le, h.cap, ⟨l.map CliZ.cells, by simp, ?_, ?_, ?_⟩, fun hn => h.low (by simpa using hn)⟩
  · intro cs hcs
    obtain ⟨x, _, rfl⟩ := List.mem_map.1 hcs
    rfl
  · intro i cs a hcs ha
    rw [List.getElem?_map] at hcs ha
    obtain ⟨x, hx, rfl⟩ := Option.map_eq_some_iff.1 hcs
    rw [hx] at ha
    obtain rfl : x.up = a := by simpa using ha
    exact ⟨none, 0, rfl, SlF.nil _ _ _ _⟩
  · have := h.reads
    unfold ReadsL at this ⊢
    rw [List.length_map, List.flatMap_map]
    exact this
theorem slN_scn {p : Nat → Prop} {w : World} {A : Option Addr} {c : Nat} {l : List ScnZ} (h : SlF p ScnZ.cells 10 w A l c) : SlN p ScannerD.In 10 w A (l.map ScnZ.up) c := by
  refine ⟨by simpa using h.le, h.cap, ⟨l.map ScnZ.cells, by simp, ?_, ?_, ?_⟩, fun hn => h.low (by simpa using hn)⟩
  · intro cs hcs
    obtain ⟨x, _, rfl⟩ := List.mem_map.1 hcs
    rfl
  · intro i cs a hcs ha
    rw [List.getElem?_map] at hcs ha
    obtain ⟨x, hx, rfl⟩ := Option.map_eq_some_iff.1 hcs
    rw [hx] at ha
    obtain rfl : x.up = a := by simpa using ha
    exact ⟨none, 0, none, 0, rfl, SlF.nil _ _ _ _, SlF.nil _ _ _ _⟩
  · have := h.reads
    unfold ReadsL at this ⊢
    rw [List.length_map, List.flatMap_map]
    exact this
/-- A dark's rows, read in blocks of p. -/
def DarkRd (p : Nat → Prop) (w : World) (v0 v1 : Value) (a : List CliZ) (b : List ScnZ) : Prop := ∃ A0 c0 A1 c1, v0 = .slice A0 a.length c0 ∧ v1 = .slice A1 b.length c1 ∧ SlF p CliZ.cells 8 w A0 a c0 ∧ SlF p ScnZ.cells 10 w A1 b c1
theorem Two.rd {K m : Nat} {w : World} {v0 v1 : Value} {a : List CliZ} {b : List ScnZ} (h : Two K w v0 v1 m a b) (ha : a.length = m) (hb : b.length = m) : DarkRd (FromB K) w v0 v1 a b := by
  subst ha
  obtain ⟨h0, h1, _⟩ := h
  obtain ⟨A0, c0, e0, s0⟩ := slf_own h0
  rw [← hb] at h1
  obtain ⟨A1, c1, e1, s1⟩ := slf_own h1
  exact ⟨A0, c0, A1, c1, e0, e1, s0, s1⟩
theorem DarkRd.ext {p : Nat → Prop} {w w' : World} {v0 v1 : Value} {a : List CliZ} {b : List ScnZ} (h : DarkRd p w v0 v1 a b) (he : Ext w w') : DarkRd p w' v0 v1 a b := by
  obtain ⟨A0, c0, A1, c1, e0, e1, s0, s1⟩ := h
  exact ⟨A0, c0, A1, c1, e0, e1, s0.ext he, s1.ext he⟩
theorem DarkRd.keep {p : Nat → Prop} {w w' : World} {v0 v1 : Value} {a : List CliZ} {b : List ScnZ} (h : DarkRd p w v0 v1 a b) (he : Keep p w w') : DarkRd p w' v0 v1 a b := by
  obtain ⟨A0, c0, A1, c1, e0, e1, s0, s1⟩ := h
  exact ⟨A0, c0, A1, c1, e0, e1, s0.keep he, s1.keep he⟩
theorem DarkRd.mono {p q : Nat → Prop} {w : World} {v0 v1 : Value} {a : List CliZ} {b : List ScnZ} (h : DarkRd p w v0 v1 a b) (he : ∀ b, p b → q b) : DarkRd q w v0 v1 a b := by
  obtain ⟨A0, c0, A1, c1, e0, e1, s0, s1⟩ := h
  exact ⟨A0, c0, A1, c1, e0, e1, s0.mono he, s1.mono he⟩
/-- .. below a world's end. -/
theorem DarkRd.lt {p : Nat → Prop} {w : World} {v0 v1 : Value} {a : List CliZ} {b : List ScnZ} (h : DarkRd p w v0 v1 a b) : DarkRd (fun b => b < w.heap.size) w v0 v1 a b := by
  obtain ⟨A0, c0, A1, c1, e0, e1, s0, s1⟩ := h
  refine ⟨A0, c0, A1, c1, e0, e1, ⟨s0.le, s0.cap, s0.reads, fun h0 x e => ?_⟩, ⟨s1.le, s1.cap, s1.reads, fun h0 x e => ?_⟩⟩
  · obtain ⟨b, off, e2, hb, _⟩ := s0.reads.2 h0; rw [e] at e2; cases e2; exact hb
  · obtain ⟨b, off, e2, hb, _⟩ := s1.reads.2 h0; rw [e] at e2; cases e2; exact hb
theorem dark_lens {n : Int} {l : List ByteArray} (h : ∀ s ∈ l, s.size ≤ 1048576) : (∀ x ∈ (darkC n l).map CliZ.up, ∀ k ∈ x.lens, k ≤ 1048576) ∧ (∀ x ∈ (darkS n l).map ScnZ.up, ∀ k ∈ x.lens, k ≤ 1048576) := by
  have he := digest_le n 5 ⟨#[]⟩
  have hc : ∀ s ∈ l, ∀ k ∈ (cliZ n s).up.lens, k ≤ 1048576 := by
    intro s hs k hk
    simp [ClientD.lens, CliZ.up, cliZ, HeadD.lens, newH, emptyR] at hk
    have := h s hs
    rcases hk with rfl | rfl | rfl <;> omega
  refine ⟨fun x hx k hk => ?_, fun x hx k hk => ?_⟩
  · unfold darkC at hx
    split at hx
    · simp only [List.map_map, List.mem_map, Function.comp] at hx
      obtain ⟨s, hs, rfl⟩ := hx
      exact hc s hs k hk
    · simp at hx
  · unfold darkS at hx
    split at hx
    · simp only [List.map_map, List.mem_map, Function.comp] at hx
      obtain ⟨s, hs, rfl⟩ := hx
      have h1 := hc s hs
      simp only [ScannerD.lens, ScnZ.up, scnZ, List.append_nil, List.mem_append, List.mem_cons, List.flatMap_nil, List.length_nil, List.not_mem_nil, or_false] at hk
      rcases hk with hk | rfl
      · exact h1 k hk
      · omega
    · simp at hx
theorem eqDark_two {p q : Nat → Prop} {w : World} {n : Int} {l : List ByteArray} {u0 u1 v0 v1 : Value} (h : DarkRd p w u0 u1 (darkC n l) (darkS n l)) (k : DarkRd q w v0 v1 (darkC n l) (darkS n l)) (hs : ∀ s ∈ l, s.size ≤ 1048576) (hl : l.length ≤ 1048576) :
    Calls Try.prog 20 #[.agg (darkV u0 u1).toArray, .agg (darkV v0 v1).toArray] w fun e w' => e = .returned (.bool true) ∧ Ext w w' := by
  obtain ⟨A0, c0, A1, c1, rfl, rfl, s0, s1⟩ := h
  obtain ⟨B0, e0, B1, e1, rfl, rfl, t0, t1⟩ := k
  obtain ⟨k1, k2⟩ := dark_lens (n := n) hs
  have hl0 : (darkC n l).length ≤ 1048576 := by unfold darkC; split <;> simp; omega
  have hl1 : (darkS n l).length ≤ 1048576 := by unfold darkS; split <;> simp; omega
  have := eqDark_same ⟨(darkC n l).map CliZ.up, (darkS n l).map ScnZ.up, [], [], [], []⟩ A0 c0 A1 c1 none 0 none 0 none 0 none 0 B0 e0 B1 e1 none 0 none 0 none 0 none 0 w
    (slN_cli s0.any) (slN_scn s1.any) (SlF.nil _ _ _ _) (SlF.nil _ _ _ _) (SlN.nil _ _ _ _) (SlF.nil _ _ _ _) (slN_cli t0.any) (slN_scn t1.any) (SlF.nil _ _ _ _) (SlF.nil _ _ _ _) (SlN.nil _ _ _ _) (SlF.nil _ _ _ _)
    (by
      intro k hk
      simp only [DarkD.lens, List.mem_append, List.mem_cons, List.mem_flatMap, List.length_map, List.length_nil, List.flatMap_nil, List.not_mem_nil, or_false] at hk
      rcases hk with (rfl | ⟨x, hx, hk⟩) | (rfl | ⟨x, hx, hk⟩) | rfl | rfl | rfl | rfl
      · exact hl0
      · exact k1 x hx k hk
      · exact hl1
      · exact k2 x hx k hk
      all_goals omega)
  simpa [darkV] using this
set_option maxHeartbeats 4000000 in
set_option maxRecDepth 100000 in
theorem lawDarkNew_walk (n : Int) (A : Option Addr) (c : Nat) (l : List ByteArray) (w : World) (hr : SlF AnyB sone 1 w A l c) (hok : ∀ s ∈ l, s.size ≤ maxLen) :
    Calls Try.prog 4 #[.int .i64 n, .slice A l.length c] w fun e w' => e = .returned (.bool true) ∧ Ext w w' := by
  have HR := Lib.hid hr
  have Hok := Lib.hid hok
  have hlm := hr.len
  unfold maxLen at hlm
  by_cases s1 : szL (l.length :: l.flatMap slens) 1048576 < 0
  · go_enter Try.func4, Try.ntmps4
    go_wp2_with fail
    refine (szStringS_any A c l _ _ HR.out Hok.out (by decide) (by decide)).mono ?_
    rintro e w1 ⟨rfl, he⟩
    go_wp2_with fail
    go_ret
    exact ⟨rfl, he⟩
  have hfit := szL_fit (by decide) (by decide) s1
  have hla : l.length ≤ 1048576 := hfit _ (by simp)
  have hss : ∀ s ∈ l, s.size ≤ 1048576 := fun s hs => hfit _ (by simp only [List.mem_cons, List.mem_flatMap]; exact .inr ⟨s, hs, by simp [slens]⟩)
  have Hss := Lib.hid hss; clear hss hfit
  have SP := Lib.hid (fun A c w h => specDarkNew_any n A c l w h hok)
  have IM := Lib.hid (fun A c w h => implDarkNew_any n A c l w h hok)
  obtain ⟨ok, hok1⟩ : ∃ ok, ok = (inR n 1 32 && namesB l) := ⟨_, rfl⟩
  rw [← hok1] at SP IM
  have m1 : (darkC n l).length ≤ 4 := by
    unfold darkC
    rw [← hok1]
    cases ok
    · simp
    · simpa using (names_ok hok1.symm).2.1
  have m2 : (darkS n l).length = (darkC n l).length := by unfold darkC darkS; split <;> simp
  obtain ⟨m, hm⟩ : ∃ m, m = (darkC n l).length := ⟨_, rfl⟩
  rw [← hm] at m1 m2
  have EQ := Lib.hid (fun (p q : Nat → Prop) (w : World) (u0 u1 v0 v1 : Value) (h : DarkRd p w u0 u1 (darkC n l) (darkS n l)) (k : DarkRd q w v0 v1 (darkC n l) (darkS n l)) => eqDark_two h k Hss.out hla)
  have M2 := Lib.hid m2
  simp only [← hm] at SP IM
  have HM := Lib.hid hm
  clear hok1 hm hok m2
  generalize darkC n l = C at *
  generalize darkS n l = S at *
  go_enter Try.func4, Try.ntmps4
  go_wp2_with fail
  refine (szStringS_any A c l _ _ HR.out Hok.out (by decide) (by decide)).mono ?_
  rintro e w1 ⟨rfl, he⟩
  go_wp2_with fail
  refine (toStringS_any A c l _ (HR.out.ext he) hla).mono ?_
  rintro e w2 ⟨y0, rfl, _, b0, h1⟩
  replace he := he.next h1; clear h1
  go_wp2_with fail
  refine (SP.out _ _ _ (SlF.new sone_length b0 hla trivial)).mono ?_
  rintro e w3 ⟨y, y', rfl, ty, h1⟩
  replace he := he.next h1; clear h1 b0
  have ry := (ty.rd HM.out.symm M2.out).lt
  obtain ⟨Y0, cy0, eY0, _⟩ := ownsRow_form ty.1
  obtain ⟨Y1, cy1, eY1, _⟩ := ownsRow_form ty.2.1
  subst eY0 eY1
  clear ty
  have hK := he.size
  have hw3 := Nat.le_refl w3.heap.size
  simp only [darkV]
  go_upto_region 6 with fail
  have b0 := Blk.new w3 50 #[.slice Y0 m cy0, .slice Y1 m cy1, .slice none 0 0, .slice none 0 0, .slice none 0 0, .slice none 0 0]
  replace he := Ext.new he (.cells #[.slice Y0 m cy0, .slice Y1 m cy1, .slice none 0 0, .slice none 0 0, .slice none 0 0, .slice none 0 0] 50)
  have ry1 := ry.ext (Ext.new (Below.refl _ _) (.cells #[.slice Y0 m cy0, .slice Y1 m cy1, .slice none 0 0, .slice none 0 0, .slice none 0 0, .slice none 0 0] 50))
  obtain ⟨g0, hg0⟩ : ∃ g0, g0 = w3.heap.size := ⟨_, rfl⟩
  rw [← hg0] at b0 ry1
  rw [← hg0]
  clear hg0 ry hw3
  generalize w3.alloc (.cells #[.slice Y0 m cy0, .slice Y1 m cy1, .slice none 0 0, .slice none 0 0, .slice none 0 0, .slice none 0 0] 50) = w4 at *
  have RY := Lib.hid ry1; clear ry1
  go_wp2_with fail
  refine (toStringS_any A c l _ (HR.out.ext he) hla).mono ?_
  rintro e w5 ⟨x0, rfl, hx0, bx, h1⟩
  have hwx : w.heap.size ≤ x0 := Nat.le_trans he.size hx0
  have hgx : g0 < x0 := Nat.lt_of_lt_of_le b0.lt hx0
  replace he := he.next h1; replace b0 := b0.ext h1; replace RY := Lib.hid (RY.out.ext h1); clear h1 hx0
  go_wp2_with fail
  refine (IM.out _ _ _ (SlF.new sone_length bx hla trivial)).mono ?_
  rintro e w6 ⟨x, x', rfl, tx, h1⟩
  have hx5 : x0 < w5.heap.size := bx.lt
  replace he := he.next h1; replace b0 := b0.ext h1; replace RY := Lib.hid (RY.out.ext h1); replace bx := bx.ext h1
  have hs6 := h1.size
  clear h1
  obtain ⟨X0, cx0, eX0, _⟩ := ownsRow_form tx.1
  obtain ⟨X1, cx1, eX1, _⟩ := ownsRow_form tx.2.1
  subst eX0 eX1
  have LX0 := Lib.hid tx.1.lt; have LX1 := Lib.hid tx.2.1.lt
  simp only [darkV]
  go_upto_region 8 with fail
  have b1 := Blk.new w6 50 #[.slice X0 m cx0, .slice X1 m cx1, .slice none 0 0, .slice none 0 0, .slice none 0 0, .slice none 0 0]
  replace he := Ext.new he (.cells #[.slice X0 m cx0, .slice X1 m cx1, .slice none 0 0, .slice none 0 0, .slice none 0 0, .slice none 0 0] 50)
  have h1 := Ext.new (Below.refl w6.heap.size w6) (.cells #[.slice X0 m cx0, .slice X1 m cx1, .slice none 0 0, .slice none 0 0, .slice none 0 0, .slice none 0 0] 50)
  replace b0 := b0.ext h1; replace RY := Lib.hid (RY.out.ext h1); replace bx := bx.ext h1
  have TX := Lib.hid (tx.ext h1)
  obtain ⟨g1, hg1⟩ : ∃ g1, g1 = w6.heap.size := ⟨_, rfl⟩
  rw [← hg1] at b1 LX0 LX1 hs6
  rw [← hg1]
  clear hg1 h1 tx
  generalize w6.alloc (.cells #[.slice X0 m cx0, .slice X1 m cx1, .slice none 0 0, .slice none 0 0, .slice none 0 0, .slice none 0 0] 50) = w7 at *
  have hw7 : w5.heap.size ≤ w7.heap.size := Nat.le_trans hs6 (Nat.le_of_lt b1.lt)
  obtain ⟨r0, f0⟩ := b0.rules
  obtain ⟨r1, f1⟩ := b1.rules
  go_wp2_with fail
  refine (EQ.out _ _ _ _ _ _ _ (TX.out.rd HM.out.symm M2.out) RY.out).mono ?_
  rintro e w8 ⟨rfl, h1⟩
  replace he := he.next h1; replace b0 := b0.ext h1; replace b1 := b1.ext h1; replace RY := Lib.hid (RY.out.ext h1); replace bx := bx.ext h1; replace TX := Lib.hid (TX.out.ext h1); replace hw7 := Nat.le_trans hw7 h1.size
  clear h1 r0 f0 r1 f1
  go_wp2_with fail
  refine (toStringS_any A c l _ (HR.out.ext he) hla).mono ?_
  rintro e w9 ⟨z1, rfl, _, b2, h1⟩
  replace he := he.next h1; replace b0 := b0.ext h1; replace b1 := b1.ext h1; replace RY := Lib.hid (RY.out.ext h1); replace bx := bx.ext h1; replace TX := Lib.hid (TX.out.ext h1); replace hw7 := Nat.le_trans hw7 h1.size
  clear h1
  go_wp2_with fail
  have ef := svals_flat l
  refine (eqStringS_same _ _ _ _ l _ (by rw [ef]; exact bx.readsL sone_length) (by rw [ef]; exact b2.readsL sone_length) hla).mono ?_
  clear ef
  rintro e w10 ⟨rfl, h1⟩
  replace he := he.next h1; replace b0 := b0.ext h1; replace b1 := b1.ext h1; replace RY := Lib.hid (RY.out.ext h1); replace bx := bx.ext h1; replace TX := Lib.hid (TX.out.ext h1); replace hw7 := Nat.le_trans hw7 h1.size
  clear h1 b2
  go_wp2_with fail
  refine (markStringS_any x0 l.length l.length 1 _ _ bx (by simp [flat_len sone 1 sone_length]) hla (by decide)).mono ?_
  rintro e w11 ⟨rfl, _, h1⟩
  have hx1 : x0 < w10.heap.size := by omega
  replace he := he.nextBut hwx h1
  replace b0 := b0.extBut h1 (by omega); replace b1 := b1.extBut h1 (by omega)
  replace RY := Lib.hid (RY.out.keep (w' := w11) ⟨h1.size, fun b hb hb2 => h1.block b hb2 (by simp; omega)⟩)
  replace TX := Lib.hid (show Two w5.heap.size w11 _ _ m C S from ⟨ownsRow_far TX.out.1 h1 hx5, ownsRow_far TX.out.2.1 h1 hx5, TX.out.2.2⟩)
  replace hw7 := Nat.le_trans hw7 h1.size
  clear h1 bx
  have q0 : (0 : Int) ≤ ((1 + l.length : Nat) : Int) := by omega
  obtain ⟨r0, f0⟩ := b0.rules
  obtain ⟨r1, f1⟩ := b1.rules
  go_wp2_with fail
  refine (EQ.out _ _ _ _ _ _ _ (TX.out.rd HM.out.symm M2.out) RY.out).mono ?_
  rintro e w12 ⟨rfl, h1⟩
  replace he := he.next h1; replace b0 := b0.ext h1; replace b1 := b1.ext h1; replace RY := Lib.hid (RY.out.ext h1); replace TX := Lib.hid (TX.out.ext h1); replace hw7 := Nat.le_trans hw7 h1.size
  clear h1 r0 f0 r1 f1
  obtain ⟨r0, f0⟩ := b0.rules
  obtain ⟨r1, f1⟩ := b1.rules
  go_wp2_with fail
  refine (markDark_two TX.out HM.out.symm M2.out (by omega) hw7).mono ?_
  rintro e w13 ⟨rfl, mk, h1⟩
  have MK := Lib.hid mk; clear mk
  have hlow : ∀ b, (InBlock (.slice X0 m cx0) b ∨ InBlock (.slice X1 m cx1) b) → w5.heap.size ≤ b ∧ b < g1 := fun b hb => by
    rcases hb with hb | hb
    · exact LX0.out b hb
    · exact LX1.out b hb
  have hs5 := he.size
  replace b0 := h1.blk b0 (fun e => by have := (hlow _ e).1; omega)
  replace b1 := h1.blk b1 (fun e => by have := (hlow _ e).2; omega)
  replace RY := Lib.hid (RY.out.keep (h1.keep (fun b _ hb e => by have := (hlow _ e).1; omega)))
  replace he : Ext w w13 := h1.toExt he (fun b hb e => by have := (hlow _ e).1; omega)
  clear h1 r0 f0 r1 f1 hlow hs5 TX hw7 LX0 LX1
  obtain ⟨r0, f0⟩ := b0.rules
  obtain ⟨r1, f1⟩ := b1.rules
  have q1 : (0 : Int) ≤ ((1 + m * 7 + m * 8 : Nat) : Int) := by omega
  go_wp2_with fail
  refine (heldDark_two MK.out (by omega)).mono ?_
  rintro e w14 ⟨rfl, h1⟩
  replace he := he.next h1; replace b0 := b0.ext h1; replace b1 := b1.ext h1; replace RY := Lib.hid (RY.out.ext h1); replace MK := Lib.hid (MK.out.ext h1)
  clear h1 r0 f0 r1 f1
  go_wp2_with fail
  refine (toStringS_any A c l _ (HR.out.ext he) hla).mono ?_
  rintro e w15 ⟨z2, rfl, _, b2, h1⟩
  replace he := he.next h1; replace b0 := b0.ext h1; replace b1 := b1.ext h1; replace RY := Lib.hid (RY.out.ext h1); replace MK := Lib.hid (MK.out.ext h1)
  clear h1
  go_wp2_with fail
  refine (IM.out _ _ _ (SlF.new sone_length b2 hla trivial)).mono ?_
  rintro e w16 ⟨z, z', rfl, tz, h1⟩
  replace he := he.next h1; replace b0 := b0.ext h1; replace b1 := b1.ext h1; replace RY := Lib.hid (RY.out.ext h1); replace MK := Lib.hid (MK.out.ext h1)
  clear h1 b2
  obtain ⟨Z0, cz0, eZ0, _⟩ := ownsRow_form tz.1
  obtain ⟨Z1, cz1, eZ1, _⟩ := ownsRow_form tz.2.1
  subst eZ0 eZ1
  simp only [darkV]
  go_upto_region 25 with fail
  have b3 := Blk.new w16 50 #[.slice Z0 m cz0, .slice Z1 m cz1, .slice none 0 0, .slice none 0 0, .slice none 0 0, .slice none 0 0]
  replace he := Ext.new he (.cells #[.slice Z0 m cz0, .slice Z1 m cz1, .slice none 0 0, .slice none 0 0, .slice none 0 0, .slice none 0 0] 50)
  have h1 := Ext.new (Below.refl w16.heap.size w16) (.cells #[.slice Z0 m cz0, .slice Z1 m cz1, .slice none 0 0, .slice none 0 0, .slice none 0 0, .slice none 0 0] 50)
  replace b0 := b0.ext h1; replace b1 := b1.ext h1; replace RY := Lib.hid (RY.out.ext h1); replace MK := Lib.hid (MK.out.ext h1)
  have TZ := Lib.hid (tz.ext h1)
  obtain ⟨g3, hg3⟩ : ∃ g3, g3 = w16.heap.size := ⟨_, rfl⟩
  rw [← hg3] at b3
  rw [← hg3]
  clear hg3 h1 tz
  generalize w16.alloc (.cells #[.slice Z0 m cz0, .slice Z1 m cz1, .slice none 0 0, .slice none 0 0, .slice none 0 0, .slice none 0 0] 50) = w17 at *
  obtain ⟨r0, f0⟩ := b0.rules
  obtain ⟨r1, f1⟩ := b1.rules
  obtain ⟨r3, f3⟩ := b3.rules
  go_wp2_with fail
  refine (EQ.out _ _ _ _ _ _ _ (TZ.out.rd HM.out.symm M2.out) RY.out).mono ?_
  rintro e w18 ⟨rfl, h1⟩
  replace he := he.next h1; replace b1 := b1.ext h1; replace MK := Lib.hid (MK.out.ext h1)
  clear h1 r0 f0 r1 f1 r3 f3 b0 b3 TZ RY
  obtain ⟨r1, f1⟩ := b1.rules
  go_wp2_with fail
  refine (heldDark_two MK.out (by omega)).mono ?_
  rintro e w19 ⟨rfl, h1⟩
  replace he := he.next h1
  clear h1 r1 f1 b1 MK
  go_wp2_with fail
  go_ret
  exact ⟨rfl, he⟩

set_option maxRecDepth 100000 in
theorem DarkNew_holds : Rows.FnExactDarkNewSaid :=
  lawOver (p := Try.pinned) (c := Rows.fnExactDarkNewRow) (s := Rows.fnExactDarkNewSpec) 4 Try.f4 4
    own laidOut (by kernel_rfl) (by kernel_rfl) rfl rfl Try.underlying4
    (fun H ds h => by match ds, h with | [d0, d1], _ => rfl)
    rfl rfl rfl rfl rfl rfl rfl ⟨rfl, rfl, rfl, rfl, rfl⟩ rfl rfl rfl rfl rfl (by kernel_rfl) Try.func4 (by kernel_rfl)
    (of_decide_eq_true (by kernel_rfl)) (by unfold Func.isWrapper; rw [if_neg (of_decide_eq_false (by kernel_rfl))]; exact ⟨rfl, rfl⟩)
    rfl rfl (fun _ _ => rfl) rfl rfl rfl rfl
    (fun os started H enc => ChangeSpec.witness6 (enc := enc) (C := Try.checked) false ⟨#[], #[.int .i64 0, .slice none 0 0], []⟩ 20 (by kernel_rfl) (by kernel_rfl) (by kernel_rfl) (by kernel_rfl))
    (fun W args h => by
      have hs := h.size
      obtain ⟨l⟩ := args
      match l, hs with
      | [v0, v1], _ =>
        obtain ⟨base0, n0, o0, t0⟩ := h.arg 0 3 v0 rfl rfl
        obtain ⟨base1, n1, o1, t1⟩ := h.arg 1 24 v1 rfl rfl
        obtain ⟨n, rfl⟩ := okWide_int Try.underlying3 o0
        obtain ⟨A0, l0, c0, rfl⟩ := okWide_slice Try.underlying24 o1
        obtain ⟨B0, d0, a, e0, s0, k0⟩ := typed_sliceF sone (fun s => s.size ≤ maxLen) 1 Try.underlying24 (by kernel_rfl) (by decide) sone_length (fun m es h => typed_string Try.underlying9 h) t1
        obtain ⟨rfl, rfl, rfl⟩ : A0 = B0 ∧ l0 = a.length ∧ c0 = d0 := by simpa [Value.cells] using e0
        exact lawDarkNew_walk n A0 c0 a W s0 k0)
#print axioms DarkNew_holds
end Go.Proofs.Ytkcjhfidgnbdiaa

/-
  WorldNew's law: walk. No condition.
-/
import Derived.Test.YtkcjhfidgnbdiaaGreatSmall
import Derived.Test.YtkcjhfidgnbdiaaGreatWorldEnd
import Derived.Test.YtkcjhfidgnbdiaaGreatCliUp
import Derived.Test.YtkcjhfidgnbdiaaGreatOwnMark
namespace Go.Proofs.YtkcjhfidgnbdiaaGreat
set_option linter.unusedSimpArgs false
open Go.RowKit Go.WideShapes Go.ChangeAt
set_option linter.unusedVariables false

def wN (ok : Bool) (n : Int) : Int := if ok then n else 0
theorem specWorldNew_any (n : Int) (A : Option Addr) (c : Nat) (l : List ByteArray) (ok : Bool) (w : World) (hr : SlF AnyB sone 1 w A l c) (hok : ∀ s ∈ l, s.size ≤ maxLen) (hy : ok = (inR n 1 32 && namesB l)) :
    Calls Tryz.prog 35 #[.int .i64 n, .slice A l.length c] w fun e w' => ∃ vh vd vc, e = .returned (.tuple #[.agg (worldC (wN ok n) vh vd vc (newH ok n)).toArray, .bool ok]) ∧ WRows w.heap.size w' vh vd vc (hsOf ok n) (dsOf ok) (csOf ok n l) ∧ Ext w w' := by
  cases ok
  · refine (specWorldNew_no n A c l w hr hok hy.symm).mono ?_
    rintro e w' ⟨rfl, h⟩
    exact ⟨.slice none 0 0, .slice none 0 0, .slice none 0 0, rfl, WRows.none _ _, h⟩
  · exact specWorldNew_yes n A c l w hr hok hy.symm
theorem implWorldNew_any (n : Int) (A : Option Addr) (c : Nat) (l : List ByteArray) (ok : Bool) (w : World) (hr : SlF AnyB sone 1 w A l c) (hok : ∀ s ∈ l, s.size ≤ maxLen) (hy : ok = (inR n 1 32 && namesB l)) :
    Calls Tryz.prog 37 #[.int .i64 n, .slice A l.length c] w fun e w' => ∃ vh vd vc, e = .returned (.tuple #[.agg (worldC (wN ok n) vh vd vc (newH ok n)).toArray, .bool ok]) ∧ WRows w.heap.size w' vh vd vc (hsOf ok n) (dsOf ok) (csOf ok n l) ∧ Ext w w' := by
  cases ok
  · refine (implWorldNew_no n A c l w hr hok hy.symm).mono ?_
    rintro e w' ⟨rfl, h⟩
    exact ⟨.slice none 0 0, .slice none 0 0, .slice none 0 0, rfl, WRows.none _ _, h⟩
  · exact implWorldNew_yes n A c l w hr hok hy.symm
/-- A world's rows, read in blocks of p. -/
def WRd (p : Nat → Prop) (w : World) (vh vd vc : Value) (hs : List HeadD) (ds : List ByteArray) (cs : List CliZ) : Prop :=
  ∃ A0 c0 A1 c1 A2 c2, vh = .slice A0 hs.length c0 ∧ vd = .slice A1 ds.length c1 ∧ vc = .slice A2 cs.length c2 ∧ SlF p HeadD.cells 5 w A0 hs c0 ∧ SlF p sone 1 w A1 ds c1 ∧ SlF p CliZ.cells 8 w A2 cs c2
section
variable {p q : Nat → Prop} {w w' : World} {vh vd vc : Value} {hs : List HeadD} {ds : List ByteArray} {cs : List CliZ}
theorem WRows.rd {K : Nat} (h : WRows K w vh vd vc hs ds cs) : WRd (FromB K) w vh vd vc hs ds cs := by
  obtain ⟨A0, c0, e0, s0⟩ := slf_own h.h
  obtain ⟨A1, c1, e1, s1⟩ := slf_own h.d
  obtain ⟨A2, c2, e2, s2⟩ := slf_own h.c
  exact ⟨A0, c0, A1, c1, A2, c2, e0, e1, e2, s0, s1, s2⟩
theorem WRd.ext (h : WRd p w vh vd vc hs ds cs) (he : Ext w w') : WRd p w' vh vd vc hs ds cs := by
  obtain ⟨A0, c0, A1, c1, A2, c2, e0, e1, e2, s0, s1, s2⟩ := h
  exact ⟨A0, c0, A1, c1, A2, c2, e0, e1, e2, s0.ext he, s1.ext he, s2.ext he⟩
theorem WRd.keep (h : WRd p w vh vd vc hs ds cs) (he : Keep p w w') : WRd p w' vh vd vc hs ds cs := by
  obtain ⟨A0, c0, A1, c1, A2, c2, e0, e1, e2, s0, s1, s2⟩ := h
  exact ⟨A0, c0, A1, c1, A2, c2, e0, e1, e2, s0.keep he, s1.keep he, s2.keep he⟩
theorem slF_lt {α : Type} {f : α → List Value} {size : Nat} {A : Option Addr} {l : List α} {c : Nat} (h : SlF p f size w A l c) : SlF (fun b => b < w.heap.size) f size w A l c :=
  ⟨h.le, h.cap, h.reads, fun h0 a e => by obtain ⟨b, off, e2, hb, _⟩ := h.reads.2 h0; rw [e] at e2; cases e2; exact hb⟩
theorem WRd.lt (h : WRd p w vh vd vc hs ds cs) : WRd (fun b => b < w.heap.size) w vh vd vc hs ds cs := by
  obtain ⟨A0, c0, A1, c1, A2, c2, e0, e1, e2, s0, s1, s2⟩ := h
  exact ⟨A0, c0, A1, c1, A2, c2, e0, e1, e2, slF_lt s0, slF_lt s1, slF_lt s2⟩
end
theorem emptyR_le (n : Int) : (emptyR n).size ≤ 32 := by
  unfold emptyR
  cases b : digestOk n 5 ⟨#[]⟩
  · rw [digest_no b]; decide
  · rw [digest_size b]
    have : inR n 1 32 = true := by simp only [digestOk, Bool.and_eq_true] at b; exact b.1.1
    have := inR_true this
    omega
theorem newH_lens (ok : Bool) (n : Int) : ∀ k ∈ (newH ok n).lens, k ≤ 1048576 := by
  intro k hk
  have := emptyR_le n
  have h0 : (⟨#[]⟩ : ByteArray).size = 0 := rfl
  cases ok
  · simp [HeadD.lens, newH] at hk; omega
  · simp [HeadD.lens, newH] at hk; omega
theorem cliZ_lens (n : Int) (s : ByteArray) (h : s.size ≤ 1048576) : ∀ k ∈ (cliZ n s).up.lens, k ≤ 1048576 := by
  intro k hk
  have := emptyR_le n
  simp [ClientD.lens, CliZ.up, cliZ, HeadD.lens, newH] at hk
  rcases hk with rfl | rfl | rfl <;> omega
theorem eqWorld_two {p q : Nat → Prop} {w : World} {n : Int} {ok : Bool} {l : List ByteArray} {uh ud uc vh vd vc : Value} (h : WRd p w uh ud uc (hsOf ok n) (dsOf ok) (csOf ok n l)) (k : WRd q w vh vd vc (hsOf ok n) (dsOf ok) (csOf ok n l)) (hs : ∀ s ∈ l, s.size ≤ 1048576) (hl : l.length ≤ 1048576) :
    Calls Tryz.prog 38 #[.agg (worldC (wN ok n) uh ud uc (newH ok n)).toArray, .agg (worldC (wN ok n) vh vd vc (newH ok n)).toArray] w fun e w' => e = .returned (.bool true) ∧ Ext w w' := by
  obtain ⟨A0, c0, A1, c1, A2, c2, rfl, rfl, rfl, s0, s1, s2⟩ := h
  obtain ⟨B0, e0, B1, e1, B2, e2, rfl, rfl, rfl, t0, t1, t2⟩ := k
  have := eqWorld_same ⟨⟨wN ok n, ⟨[]⟩, [], hsOf ok n, ⟨⟨0, []⟩, ⟨0, []⟩, newH ok n⟩⟩, ⟨dsOf ok⟩, (csOf ok n l).map CliZ.up, [], []⟩ none 0 none 0 A0 c0 none 0 none 0 A1 c1 A2 c2 none 0 none 0 none 0 none 0 B0 e0 none 0 none 0 B1 e1 B2 e2 none 0 none 0 w
    (SlF.nil _ _ _ _) (SlF.nil _ _ _ _) s0.any (SlF.nil _ _ _ _) (SlF.nil _ _ _ _) s1.any (slN_cli s2.any) (SlF.nil _ _ _ _) (SlN.nil _ _ _ _) (SlF.nil _ _ _ _) (SlF.nil _ _ _ _) t0.any (SlF.nil _ _ _ _) (SlF.nil _ _ _ _) t1.any (slN_cli t2.any) (SlF.nil _ _ _ _) (SlN.nil _ _ _ _)
    (by
      intro k hk
      have hb := newH_lens ok n
      have hb1 := newH_lens true n
      cases ok
      · simp [WorldD.lens, BrokerD.lens, LogD.lens, SealD.lens, RangeD.lens, DiskD.lens, hsOf, dsOf, csOf] at hk
        rcases hk with hk | hk
        · omega
        · rcases hk with hk | hk
          · exact hb k hk
          · omega
      · simp [WorldD.lens, BrokerD.lens, LogD.lens, SealD.lens, RangeD.lens, DiskD.lens, hsOf, dsOf, csOf, slens] at hk
        rcases hk with hk | hk
        · omega
        · have h0 : (⟨#[]⟩ : ByteArray).size = 0 := rfl
          rcases hk with hk | hk | hk | hk | hk | hk | hk | ⟨a, ⟨x, hx, rfl⟩, hk⟩ | hk
          · omega
          · exact hb1 k hk
          · omega
          · exact hb1 k hk
          · omega
          · omega
          · omega
          · exact cliZ_lens n x (hs x hx) k hk
          · omega)
  simpa [worldC] using this
set_option maxHeartbeats 8000000 in
set_option maxRecDepth 100000 in
theorem lawWorldNew_walk (n : Int) (A : Option Addr) (c : Nat) (l : List ByteArray) (w : World) (hr : SlF AnyB sone 1 w A l c) (hok : ∀ s ∈ l, s.size ≤ maxLen) :
    Calls Tryz.prog 6 #[.int .i64 n, .slice A l.length c] w fun e w' => e = .returned (.bool true) ∧ Ext w w' := by
  have HR := Lib.hid hr
  have Hok := Lib.hid hok
  have hlm := hr.len
  unfold maxLen at hlm
  by_cases s1 : szL (l.length :: l.flatMap slens) 1048576 < 0
  · go_enter Tryz.func6, Tryz.ntmps6
    go_wp2_with fail
    refine (szStringS_any A c l _ _ HR.out Hok.out (by decide) (by decide)).mono ?_
    rintro e w1 ⟨rfl, he⟩
    go_wp2_with fail
    go_ret
    exact ⟨rfl, he⟩
  have hfit := szL_fit (by decide) (by decide) s1
  have hla : l.length ≤ 1048576 := hfit _ (by simp)
  have hss : ∀ s ∈ l, s.size ≤ 1048576 := fun s hs => hfit _ (by simp only [List.mem_cons, List.mem_flatMap]; exact .inr ⟨s, hs, by simp [slens]⟩)
  have Hss := Lib.hid hss; clear hss hfit
  obtain ⟨ok, hok1⟩ : ∃ ok, ok = (inR n 1 32 && namesB l) := ⟨_, rfl⟩
  have SP := Lib.hid (fun A c w h => specWorldNew_any n A c l ok w h hok hok1)
  have IM := Lib.hid (fun A c w h => implWorldNew_any n A c l ok w h hok hok1)
  have m3 : (csOf ok n l).length ≤ 4 := by
    cases ok
    · simp [csOf]
    · simpa [csOf] using (names_ok hok1.symm).2.1
  have m1 : (hsOf ok n).length ≤ 1 := by cases ok <;> simp [hsOf]
  have m2 : (dsOf ok).length ≤ 3 := by cases ok <;> simp [dsOf]
  have EQ := Lib.hid (fun (p q : Nat → Prop) (w : World) (uh ud uc vh vd vc : Value) (h : WRd p w uh ud uc (hsOf ok n) (dsOf ok) (csOf ok n l)) (k : WRd q w vh vd vc (hsOf ok n) (dsOf ok) (csOf ok n l)) => eqWorld_two h k Hss.out hla)
  obtain ⟨mh, hmh⟩ : ∃ mh, mh = (hsOf ok n).length := ⟨_, rfl⟩
  obtain ⟨md, hmd⟩ : ∃ md, md = (dsOf ok).length := ⟨_, rfl⟩
  obtain ⟨mc, hmc⟩ : ∃ mc, mc = (csOf ok n l).length := ⟨_, rfl⟩
  rw [← hmh] at m1
  rw [← hmd] at m2
  rw [← hmc] at m3
  have HMH := Lib.hid hmh.symm; have HMD := Lib.hid hmd.symm; have HMC := Lib.hid hmc.symm
  clear hok1 hok hmh hmd hmc
  generalize hsOf ok n = HS at *
  generalize dsOf ok = DS at *
  generalize csOf ok n l = CS at *
  generalize newH ok n = h at *
  generalize wN ok n = N at *
  go_enter Tryz.func6, Tryz.ntmps6
  go_wp2_with fail
  refine (szStringS_any A c l _ _ HR.out Hok.out (by decide) (by decide)).mono ?_
  rintro e w1 ⟨rfl, he⟩
  go_wp2_with fail
  refine (toStringS_any A c l _ (HR.out.ext he) hla).mono ?_
  rintro e w2 ⟨y0, rfl, _, b0, h1⟩
  replace he := he.next h1; clear h1
  go_wp2_with fail
  refine (SP.out _ _ _ (SlF.new sone_length b0 hla trivial)).mono ?_
  rintro e w3 ⟨yh, yd, yc, rfl, ty, h1⟩
  replace he := he.next h1; clear h1 b0
  have ry := ty.rd.lt
  obtain ⟨Y0, cY0, eY0, _⟩ := ownsRow_form ty.h
  obtain ⟨Y1, cY1, eY1, _⟩ := ownsRow_form ty.d
  obtain ⟨Y2, cY2, eY2, _⟩ := ownsRow_form ty.c
  rw [HMH.out] at eY0
  rw [HMD.out] at eY1
  rw [HMC.out] at eY2
  subst eY0 eY1 eY2
  clear ty
  simp only [worldC]
  go_upto_region 6 with fail
  have b0 := Blk.new w3 80 #[.int .i64 N, .slice none 0 0, .slice none 0 0, .slice Y0 mh cY0, .int .i64 0, .slice none 0 0, .int .i64 0, .slice none 0 0, .int .i64 h.number, .int .i64 h.size, .string h.root, .int .i64 h.taken, .string h.takenRoot, .slice Y1 md cY1, .slice Y2 mc cY2, .slice none 0 0, .slice none 0 0]
  replace he := Ext.new he (.cells #[.int .i64 N, .slice none 0 0, .slice none 0 0, .slice Y0 mh cY0, .int .i64 0, .slice none 0 0, .int .i64 0, .slice none 0 0, .int .i64 h.number, .int .i64 h.size, .string h.root, .int .i64 h.taken, .string h.takenRoot, .slice Y1 md cY1, .slice Y2 mc cY2, .slice none 0 0, .slice none 0 0] 80)
  have ry1 := ry.ext (Ext.new (Below.refl _ _) (.cells #[.int .i64 N, .slice none 0 0, .slice none 0 0, .slice Y0 mh cY0, .int .i64 0, .slice none 0 0, .int .i64 0, .slice none 0 0, .int .i64 h.number, .int .i64 h.size, .string h.root, .int .i64 h.taken, .string h.takenRoot, .slice Y1 md cY1, .slice Y2 mc cY2, .slice none 0 0, .slice none 0 0] 80))
  obtain ⟨g0, hg0⟩ : ∃ g0, g0 = w3.heap.size := ⟨_, rfl⟩
  rw [← hg0] at b0 ry1
  rw [← hg0]
  clear hg0 ry
  generalize w3.alloc (.cells #[.int .i64 N, .slice none 0 0, .slice none 0 0, .slice Y0 mh cY0, .int .i64 0, .slice none 0 0, .int .i64 0, .slice none 0 0, .int .i64 h.number, .int .i64 h.size, .string h.root, .int .i64 h.taken, .string h.takenRoot, .slice Y1 md cY1, .slice Y2 mc cY2, .slice none 0 0, .slice none 0 0] 80) = w4 at *
  have RYD := Lib.hid ry1; clear ry1
  go_wp2_with fail
  refine (toStringS_any A c l _ (HR.out.ext he) hla).mono ?_
  rintro e w5 ⟨x0, rfl, hx0, bx, h1⟩
  have hwx : w.heap.size ≤ x0 := Nat.le_trans he.size hx0
  have hgx : g0 < x0 := Nat.lt_of_lt_of_le b0.lt hx0
  replace he := he.next h1; replace b0 := b0.ext h1; replace RYD := Lib.hid (RYD.out.ext h1); clear h1 hx0
  go_wp2_with fail
  refine (IM.out _ _ _ (SlF.new sone_length bx hla trivial)).mono ?_
  rintro e w6 ⟨xh, xd, xc, rfl, tx, h1⟩
  have hx5 : x0 < w5.heap.size := bx.lt
  replace he := he.next h1; replace b0 := b0.ext h1; replace RYD := Lib.hid (RYD.out.ext h1); replace bx := bx.ext h1
  have hs6 := h1.size
  clear h1
  obtain ⟨X0, cX0, eX0, _⟩ := ownsRow_form tx.h
  obtain ⟨X1, cX1, eX1, _⟩ := ownsRow_form tx.d
  obtain ⟨X2, cX2, eX2, _⟩ := ownsRow_form tx.c
  rw [HMH.out] at eX0
  rw [HMD.out] at eX1
  rw [HMC.out] at eX2
  subst eX0 eX1 eX2
  have LX0 := Lib.hid tx.h.lt; have LX1 := Lib.hid tx.d.lt; have LX2 := Lib.hid tx.c.lt
  simp only [worldC]
  go_upto_region 8 with fail
  have b1 := Blk.new w6 80 #[.int .i64 N, .slice none 0 0, .slice none 0 0, .slice X0 mh cX0, .int .i64 0, .slice none 0 0, .int .i64 0, .slice none 0 0, .int .i64 h.number, .int .i64 h.size, .string h.root, .int .i64 h.taken, .string h.takenRoot, .slice X1 md cX1, .slice X2 mc cX2, .slice none 0 0, .slice none 0 0]
  replace he := Ext.new he (.cells #[.int .i64 N, .slice none 0 0, .slice none 0 0, .slice X0 mh cX0, .int .i64 0, .slice none 0 0, .int .i64 0, .slice none 0 0, .int .i64 h.number, .int .i64 h.size, .string h.root, .int .i64 h.taken, .string h.takenRoot, .slice X1 md cX1, .slice X2 mc cX2, .slice none 0 0, .slice none 0 0] 80)
  have h1 := Ext.new (Below.refl w6.heap.size w6) (.cells #[.int .i64 N, .slice none 0 0, .slice none 0 0, .slice X0 mh cX0, .int .i64 0, .slice none 0 0, .int .i64 0, .slice none 0 0, .int .i64 h.number, .int .i64 h.size, .string h.root, .int .i64 h.taken, .string h.takenRoot, .slice X1 md cX1, .slice X2 mc cX2, .slice none 0 0, .slice none 0 0] 80)
  replace b0 := b0.ext h1; replace RYD := Lib.hid (RYD.out.ext h1); replace bx := bx.ext h1
  have TX := Lib.hid (tx.ext h1)
  obtain ⟨g1, hg1⟩ : ∃ g1, g1 = w6.heap.size := ⟨_, rfl⟩
  rw [← hg1] at b1 LX0 LX1 LX2 hs6
  rw [← hg1]
  clear hg1 h1 tx
  generalize w6.alloc (.cells #[.int .i64 N, .slice none 0 0, .slice none 0 0, .slice X0 mh cX0, .int .i64 0, .slice none 0 0, .int .i64 0, .slice none 0 0, .int .i64 h.number, .int .i64 h.size, .string h.root, .int .i64 h.taken, .string h.takenRoot, .slice X1 md cX1, .slice X2 mc cX2, .slice none 0 0, .slice none 0 0] 80) = w7 at *
  have RX := Lib.hid (Blk.range b1); have RY := Lib.hid (Blk.range b0)
  go_wp2_with (first | (refine wpList_load_mid rfl 80 _ rfl g1 0 rfl [.int .i64 N, .slice none 0 0, .slice none 0 0, .slice X0 mh cX0, .int .i64 0, .slice none 0 0, .int .i64 0, .slice none 0 0, .int .i64 h.number, .int .i64 h.size, .string h.root, .int .i64 h.taken, .string h.takenRoot, .slice X1 md cX1, .slice X2 mc cX2, .slice none 0 0, .slice none 0 0] _ RX.out Tryz.underlying80 rfl (by kernel_rfl) ?_) | (refine wpList_load_mid rfl 80 _ rfl g0 0 rfl [.int .i64 N, .slice none 0 0, .slice none 0 0, .slice Y0 mh cY0, .int .i64 0, .slice none 0 0, .int .i64 0, .slice none 0 0, .int .i64 h.number, .int .i64 h.size, .string h.root, .int .i64 h.taken, .string h.takenRoot, .slice Y1 md cY1, .slice Y2 mc cY2, .slice none 0 0, .slice none 0 0] _ RY.out Tryz.underlying80 rfl (by kernel_rfl) ?_))
  refine (EQ.out _ _ _ _ _ _ _ _ _ TX.out.rd RYD.out).mono ?_
  rintro e w8 ⟨rfl, h1⟩
  replace he := he.next h1; replace b0 := b0.ext h1; replace b1 := b1.ext h1; replace RYD := Lib.hid (RYD.out.ext h1); replace bx := bx.ext h1; replace TX := Lib.hid (TX.out.ext h1)
  clear h1 RX RY
  go_wp2_with fail
  refine (toStringS_any A c l _ (HR.out.ext he) hla).mono ?_
  rintro e w9 ⟨z1, rfl, _, b2, h1⟩
  replace he := he.next h1; replace b0 := b0.ext h1; replace b1 := b1.ext h1; replace RYD := Lib.hid (RYD.out.ext h1); replace bx := bx.ext h1; replace TX := Lib.hid (TX.out.ext h1)
  clear h1
  go_wp2_with fail
  have ef := svals_flat l
  refine (eqStringS_same _ _ _ _ l _ (by rw [ef]; exact bx.readsL sone_length) (by rw [ef]; exact b2.readsL sone_length) hla).mono ?_
  clear ef
  rintro e w10 ⟨rfl, h1⟩
  replace he := he.next h1; replace b0 := b0.ext h1; replace b1 := b1.ext h1; replace RYD := Lib.hid (RYD.out.ext h1); replace bx := bx.ext h1; replace TX := Lib.hid (TX.out.ext h1)
  clear h1 b2
  go_wp2_with fail
  refine (markStringS_any x0 l.length l.length 1 _ _ bx (by simp [flat_len sone 1 sone_length]) hla (by decide)).mono ?_
  rintro e w11 ⟨rfl, _, h1⟩
  have hg1x : g1 ≠ x0 := by omega
  replace he := he.nextBut hwx h1
  replace b0 := b0.extBut h1 (by omega); replace b1 := b1.extBut h1 hg1x
  replace RYD := Lib.hid (RYD.out.keep (w' := w11) ⟨h1.size, fun b hb hb2 => h1.block b hb2 (by simp; omega)⟩)
  replace TX := Lib.hid (TX.out.far h1 hx5)
  clear h1 bx
  have q0 : (0 : Int) ≤ ((1 + l.length : Nat) : Int) := by omega
  have RX := Lib.hid (Blk.range b1); have RY := Lib.hid (Blk.range b0)
  go_wp2_with (first | (refine wpList_load_want (by rfl) 80 _ rfl g1 0 rfl [.int .i64 N, .slice none 0 0, .slice none 0 0, .slice X0 mh cX0, .int .i64 0, .slice none 0 0, .int .i64 0, .slice none 0 0, .int .i64 h.number, .int .i64 h.size, .string h.root, .int .i64 h.taken, .string h.takenRoot, .slice X1 md cX1, .slice X2 mc cX2, .slice none 0 0, .slice none 0 0] _ RX.out Tryz.underlying80 rfl (by kernel_rfl) ?_) | (refine wpList_load_want (by rfl) 80 _ rfl g0 0 rfl [.int .i64 N, .slice none 0 0, .slice none 0 0, .slice Y0 mh cY0, .int .i64 0, .slice none 0 0, .int .i64 0, .slice none 0 0, .int .i64 h.number, .int .i64 h.size, .string h.root, .int .i64 h.taken, .string h.takenRoot, .slice Y1 md cY1, .slice Y2 mc cY2, .slice none 0 0, .slice none 0 0] _ RY.out Tryz.underlying80 rfl (by kernel_rfl) ?_))
  refine (EQ.out _ _ _ _ _ _ _ _ _ TX.out.rd RYD.out).mono ?_
  rintro e w12 ⟨rfl, h1⟩
  replace he := he.next h1; replace b0 := b0.ext h1; replace b1 := b1.ext h1; replace RYD := Lib.hid (RYD.out.ext h1); replace TX := Lib.hid (TX.out.ext h1)
  clear h1 RX RY
  have RX := Lib.hid (Blk.range b1)
  have MW := Lib.hid (markWorld_new N h w12 TX.out (by rw [HMH.out]; omega) (by rw [HMD.out]; omega) (by rw [HMC.out]; omega))
  rw [HMH.out, HMD.out, HMC.out] at MW
  simp only [worldC] at MW
  go_wp2_with (first | (refine wpList_load_mid rfl 80 _ rfl g1 0 rfl [.int .i64 N, .slice none 0 0, .slice none 0 0, .slice X0 mh cX0, .int .i64 0, .slice none 0 0, .int .i64 0, .slice none 0 0, .int .i64 h.number, .int .i64 h.size, .string h.root, .int .i64 h.taken, .string h.takenRoot, .slice X1 md cX1, .slice X2 mc cX2, .slice none 0 0, .slice none 0 0] _ RX.out Tryz.underlying80 rfl (by kernel_rfl) ?_))
  refine MW.out.mono ?_
  rintro e w13 ⟨rfl, mk, h1⟩
  have MK := Lib.hid mk; clear mk MW
  have hlow : ∀ b, WBlk (.slice X0 mh cX0) (.slice X1 md cX1) (.slice X2 mc cX2) b → w5.heap.size ≤ b ∧ b < g1 := fun b hb => by
    rcases hb with hb | hb | hb
    · exact LX0.out b hb
    · exact LX1.out b hb
    · exact LX2.out b hb
  have hs5 := he.size
  replace b0 := h1.blk b0 (fun e => by have := (hlow _ e).1; omega)
  replace b1 := h1.blk b1 (fun e => by have := (hlow _ e).2; omega)
  replace RYD := Lib.hid (RYD.out.keep (h1.keep (fun b _ hb e => by have := (hlow _ e).1; omega)))
  replace he : Ext w w13 := h1.toExt he (fun b hb e => by have := (hlow _ e).1; omega)
  clear h1 hlow hs5 TX LX0 LX1 LX2 RX
  have RX := Lib.hid (Blk.range b1)
  have q1 : (0 : Int) ≤ ((1 + mh * 5 + md + mc * 7 : Nat) : Int) := by omega
  have HW := Lib.hid (fun (W : World) (k : WMk W (.slice X0 mh cX0) (.slice X1 md cX1) (.slice X2 mc cX2) mh md mc) => heldWorld_new N h W k (by omega) (by omega) (by omega))
  simp only [worldC] at HW
  go_wp2_with (first | (refine wpList_load_mid rfl 80 _ rfl g1 0 rfl [.int .i64 N, .slice none 0 0, .slice none 0 0, .slice X0 mh cX0, .int .i64 0, .slice none 0 0, .int .i64 0, .slice none 0 0, .int .i64 h.number, .int .i64 h.size, .string h.root, .int .i64 h.taken, .string h.takenRoot, .slice X1 md cX1, .slice X2 mc cX2, .slice none 0 0, .slice none 0 0] _ RX.out Tryz.underlying80 rfl (by kernel_rfl) ?_))
  refine (HW.out _ MK.out).mono ?_
  rintro e w14 ⟨rfl, h1⟩
  replace he := he.next h1; replace b0 := b0.ext h1; replace b1 := b1.ext h1; replace RYD := Lib.hid (RYD.out.ext h1); replace MK := Lib.hid (MK.out.ext h1)
  clear h1 RX
  go_wp2_with fail
  refine (toStringS_any A c l _ (HR.out.ext he) hla).mono ?_
  rintro e w15 ⟨z2, rfl, _, b2, h1⟩
  replace he := he.next h1; replace b0 := b0.ext h1; replace b1 := b1.ext h1; replace RYD := Lib.hid (RYD.out.ext h1); replace MK := Lib.hid (MK.out.ext h1)
  clear h1
  go_wp2_with fail
  refine (IM.out _ _ _ (SlF.new sone_length b2 hla trivial)).mono ?_
  rintro e w16 ⟨zh, zd, zc, rfl, tz, h1⟩
  replace he := he.next h1; replace b0 := b0.ext h1; replace b1 := b1.ext h1; replace RYD := Lib.hid (RYD.out.ext h1); replace MK := Lib.hid (MK.out.ext h1)
  clear h1 b2
  obtain ⟨Z0, cZ0, eZ0, _⟩ := ownsRow_form tz.h
  obtain ⟨Z1, cZ1, eZ1, _⟩ := ownsRow_form tz.d
  obtain ⟨Z2, cZ2, eZ2, _⟩ := ownsRow_form tz.c
  rw [HMH.out] at eZ0
  rw [HMD.out] at eZ1
  rw [HMC.out] at eZ2
  subst eZ0 eZ1 eZ2
  simp only [worldC]
  go_upto_region 25 with fail
  have b3 := Blk.new w16 80 #[.int .i64 N, .slice none 0 0, .slice none 0 0, .slice Z0 mh cZ0, .int .i64 0, .slice none 0 0, .int .i64 0, .slice none 0 0, .int .i64 h.number, .int .i64 h.size, .string h.root, .int .i64 h.taken, .string h.takenRoot, .slice Z1 md cZ1, .slice Z2 mc cZ2, .slice none 0 0, .slice none 0 0]
  replace he := Ext.new he (.cells #[.int .i64 N, .slice none 0 0, .slice none 0 0, .slice Z0 mh cZ0, .int .i64 0, .slice none 0 0, .int .i64 0, .slice none 0 0, .int .i64 h.number, .int .i64 h.size, .string h.root, .int .i64 h.taken, .string h.takenRoot, .slice Z1 md cZ1, .slice Z2 mc cZ2, .slice none 0 0, .slice none 0 0] 80)
  have h1 := Ext.new (Below.refl w16.heap.size w16) (.cells #[.int .i64 N, .slice none 0 0, .slice none 0 0, .slice Z0 mh cZ0, .int .i64 0, .slice none 0 0, .int .i64 0, .slice none 0 0, .int .i64 h.number, .int .i64 h.size, .string h.root, .int .i64 h.taken, .string h.takenRoot, .slice Z1 md cZ1, .slice Z2 mc cZ2, .slice none 0 0, .slice none 0 0] 80)
  replace b0 := b0.ext h1; replace b1 := b1.ext h1; replace RYD := Lib.hid (RYD.out.ext h1); replace MK := Lib.hid (MK.out.ext h1)
  have TZ := Lib.hid (tz.ext h1)
  obtain ⟨g3, hg3⟩ : ∃ g3, g3 = w16.heap.size := ⟨_, rfl⟩
  rw [← hg3] at b3
  rw [← hg3]
  clear hg3 h1 tz
  generalize w16.alloc (.cells #[.int .i64 N, .slice none 0 0, .slice none 0 0, .slice Z0 mh cZ0, .int .i64 0, .slice none 0 0, .int .i64 0, .slice none 0 0, .int .i64 h.number, .int .i64 h.size, .string h.root, .int .i64 h.taken, .string h.takenRoot, .slice Z1 md cZ1, .slice Z2 mc cZ2, .slice none 0 0, .slice none 0 0] 80) = w17 at *
  have RZ := Lib.hid (Blk.range b3); have RY := Lib.hid (Blk.range b0)
  go_wp2_with (first | (refine wpList_load_mid rfl 80 _ rfl g3 0 rfl [.int .i64 N, .slice none 0 0, .slice none 0 0, .slice Z0 mh cZ0, .int .i64 0, .slice none 0 0, .int .i64 0, .slice none 0 0, .int .i64 h.number, .int .i64 h.size, .string h.root, .int .i64 h.taken, .string h.takenRoot, .slice Z1 md cZ1, .slice Z2 mc cZ2, .slice none 0 0, .slice none 0 0] _ RZ.out Tryz.underlying80 rfl (by kernel_rfl) ?_) | (refine wpList_load_mid rfl 80 _ rfl g0 0 rfl [.int .i64 N, .slice none 0 0, .slice none 0 0, .slice Y0 mh cY0, .int .i64 0, .slice none 0 0, .int .i64 0, .slice none 0 0, .int .i64 h.number, .int .i64 h.size, .string h.root, .int .i64 h.taken, .string h.takenRoot, .slice Y1 md cY1, .slice Y2 mc cY2, .slice none 0 0, .slice none 0 0] _ RY.out Tryz.underlying80 rfl (by kernel_rfl) ?_))
  refine (EQ.out _ _ _ _ _ _ _ _ _ TZ.out.rd RYD.out).mono ?_
  rintro e w18 ⟨rfl, h1⟩
  replace he := he.next h1; replace b1 := b1.ext h1; replace MK := Lib.hid (MK.out.ext h1)
  clear h1 b0 b3 TZ RYD RZ RY
  have RX := Lib.hid (Blk.range b1)
  go_wp2_with (first | (refine wpList_load_mid rfl 80 _ rfl g1 0 rfl [.int .i64 N, .slice none 0 0, .slice none 0 0, .slice X0 mh cX0, .int .i64 0, .slice none 0 0, .int .i64 0, .slice none 0 0, .int .i64 h.number, .int .i64 h.size, .string h.root, .int .i64 h.taken, .string h.takenRoot, .slice X1 md cX1, .slice X2 mc cX2, .slice none 0 0, .slice none 0 0] _ RX.out Tryz.underlying80 rfl (by kernel_rfl) ?_))
  refine (HW.out _ MK.out).mono ?_
  rintro e w19 ⟨rfl, h1⟩
  replace he := he.next h1
  clear h1 b1 MK
  go_wp2_with fail
  go_ret
  exact ⟨rfl, he⟩

end Go.Proofs.YtkcjhfidgnbdiaaGreat

/-
  The laws' own functions at a world without entries and receipts: walks. Written by program (gen_worldend.py). No condition.
-/
import Derived.Test.YtkcjhfidgnbdiaaGreatWorldNw
import Derived.Test.YtkcjhfidgnbdiaaGreatMarkRow
namespace Go.Proofs.YtkcjhfidgnbdiaaGreat
set_option linter.unusedSimpArgs false
open Go.RowKit
set_option linter.unusedVariables false

theorem markRange_nil (k : Int) (w : World) : Calls Tryz.prog 172 #[.agg #[.int .i64 0, .slice none 0 0], .int .i64 k] w fun e w' => e = .returned (.int .i64 k) ∧ Ext w w' := by
  have He := Lib.hid (Ext.new (Below.refl w.heap.size w) (.cells #[.int .i64 0, .slice none 0 0] 31))
  go_enter Tryz.func172, Tryz.ntmps172
  go_wp2_with fail
  refine (markStringS_nil _ _).mono ?_
  rintro e w1 ⟨rfl, h1⟩
  have he := He.out.next h1
  go_wp2_with fail
  go_ret
  exact ⟨rfl, he⟩
theorem heldRange_nil (k : Int) (w : World) (hk : 0 ≤ k) : Calls Tryz.prog 215 #[.agg #[.int .i64 0, .slice none 0 0], .int .i64 k] w fun e w' => e = .returned (.int .i64 k) ∧ Ext w w' := by
  have He := Lib.hid (Ext.new (Below.refl w.heap.size w) (.cells #[.int .i64 0, .slice none 0 0] 31))
  go_enter Tryz.func215, Tryz.ntmps215
  go_wp2_with fail
  refine (heldStringS_nil _ _).mono ?_
  rintro e w1 ⟨rfl, h1⟩
  have he := He.out.next h1
  go_wp2_with fail
  go_ret
  exact ⟨rfl, he⟩
theorem markLog_nil (k : Int) (w : World) : Calls Tryz.prog 82 #[.agg #[.slice none 0 0], .int .i64 k] w fun e w' => e = .returned (.int .i64 k) ∧ Ext w w' := by
  have He := Lib.hid (Ext.new (Below.refl w.heap.size w) (.cells #[.slice none 0 0] 26))
  go_enter Tryz.func82, Tryz.ntmps82
  go_wp2_with fail
  refine (markEntryS_nil _ _).mono ?_
  rintro e w1 ⟨rfl, h1⟩
  have he := He.out.next h1
  go_wp2_with fail
  go_ret
  exact ⟨rfl, he⟩
theorem heldLog_nil (k : Int) (w : World) (hk : 0 ≤ k) : Calls Tryz.prog 125 #[.agg #[.slice none 0 0], .int .i64 k] w fun e w' => e = .returned (.int .i64 k) ∧ Ext w w' := by
  have He := Lib.hid (Ext.new (Below.refl w.heap.size w) (.cells #[.slice none 0 0] 26))
  go_enter Tryz.func125, Tryz.ntmps125
  go_wp2_with fail
  refine (heldEntryS_nil _ _).mono ?_
  rintro e w1 ⟨rfl, h1⟩
  have he := He.out.next h1
  go_wp2_with fail
  go_ret
  exact ⟨rfl, he⟩
set_option maxHeartbeats 1000000 in
theorem markSeal_nil (h : HeadD) (k : Int) (w : World) : Calls Tryz.prog 85 #[.agg #[.int .i64 0, .slice none 0 0, .int .i64 0, .slice none 0 0, .int .i64 h.number, .int .i64 h.size, .string h.root, .int .i64 h.taken, .string h.takenRoot], .int .i64 k] w fun e w' => e = .returned (.int .i64 k) ∧ Ext w w' := by
  have K0 := Lib.hid (Blk.new w 35 #[.int .i64 0, .slice none 0 0, .int .i64 0, .slice none 0 0, .int .i64 h.number, .int .i64 h.size, .string h.root, .int .i64 h.taken, .string h.takenRoot])
  have He := Lib.hid (Ext.new (Below.refl w.heap.size w) (.cells #[.int .i64 0, .slice none 0 0, .int .i64 0, .slice none 0 0, .int .i64 h.number, .int .i64 h.size, .string h.root, .int .i64 h.taken, .string h.takenRoot] 35))
  go_enter Tryz.func85, Tryz.ntmps85
  go_wp2_with fail
  refine (markRange_nil _ _).mono ?_
  rintro e w1 ⟨rfl, h1⟩
  have he := He.out.next h1; have k0 := K0.out.ext h1
  clear He K0 h1
  obtain ⟨r0, f0⟩ := k0.rules
  go_wp2_with fail
  refine (markRange_nil _ _).mono ?_
  rintro e w2 ⟨rfl, h1⟩
  replace he := he.next h1
  go_wp2_with fail
  go_ret
  exact ⟨rfl, he⟩
set_option maxHeartbeats 1000000 in
theorem heldSeal_nil (h : HeadD) (k : Int) (w : World) (hk : 0 ≤ k) : Calls Tryz.prog 128 #[.agg #[.int .i64 0, .slice none 0 0, .int .i64 0, .slice none 0 0, .int .i64 h.number, .int .i64 h.size, .string h.root, .int .i64 h.taken, .string h.takenRoot], .int .i64 k] w fun e w' => e = .returned (.int .i64 k) ∧ Ext w w' := by
  have K0 := Lib.hid (Blk.new w 35 #[.int .i64 0, .slice none 0 0, .int .i64 0, .slice none 0 0, .int .i64 h.number, .int .i64 h.size, .string h.root, .int .i64 h.taken, .string h.takenRoot])
  have He := Lib.hid (Ext.new (Below.refl w.heap.size w) (.cells #[.int .i64 0, .slice none 0 0, .int .i64 0, .slice none 0 0, .int .i64 h.number, .int .i64 h.size, .string h.root, .int .i64 h.taken, .string h.takenRoot] 35))
  go_enter Tryz.func128, Tryz.ntmps128
  go_wp2_with fail
  refine (heldRange_nil _ _ hk).mono ?_
  rintro e w1 ⟨rfl, h1⟩
  have he := He.out.next h1; have k0 := K0.out.ext h1
  clear He K0 h1
  obtain ⟨r0, f0⟩ := k0.rules
  go_wp2_with fail
  refine (heldRange_nil _ _ hk).mono ?_
  rintro e w2 ⟨rfl, h1⟩
  replace he := he.next h1
  go_wp2_with fail
  go_ret
  exact ⟨rfl, he⟩
/-- A broker's heads hold what marking wrote. -/
def HMk (w : World) (vh : Value) (k m : Nat) : Prop := ∃ A c, vh = .slice A m c ∧ SlF (InBlock vh) HeadD.cells 5 w A (HeadD.mkL k m) c
theorem HMk.ext {w w' : World} {vh : Value} {k m : Nat} (h : HMk w vh k m) (he : Ext w w') : HMk w' vh k m := by obtain ⟨A, c, h1, h2⟩ := h; exact ⟨A, c, h1, h2.ext he⟩
theorem HMk.frm {w w' : World} {vh : Value} {k m : Nat} {X : Nat → Prop} (h : HMk w vh k m) (he : Frm X w w') (hX : ∀ b, vh.ownBlock = some b → ¬ X b) : HMk w' vh k m := by
  obtain ⟨A, c, h1, h2⟩ := h; exact ⟨A, c, h1, h2.keep (he.keep (fun b _ hb => hX b hb))⟩
def CMk (w : World) (vc : Value) (k m : Nat) : Prop := ∃ A c, vc = .slice A m c ∧ SlF (InBlock vc) CliZ.cells 8 w A (CliZ.mkL k m) c
theorem CMk.ext {w w' : World} {vh : Value} {k m : Nat} (h : CMk w vh k m) (he : Ext w w') : CMk w' vh k m := by obtain ⟨A, c, h1, h2⟩ := h; exact ⟨A, c, h1, h2.ext he⟩
set_option maxHeartbeats 2000000 in
set_option maxRecDepth 100000 in
theorem markBroker_new {K mh k : Nat} {vh : Value} {hs : List HeadD} (n : Int) (h : HeadD) (w : World) (ho : w.ownsRow K 33 5 vh mh (hs.flatMap HeadD.cells)) (hl : mh ≤ 1000) (hk : k ≤ 1000000) :
    Calls Tryz.prog 31 #[.agg #[.int .i64 n, .slice none 0 0, .slice none 0 0, vh, .int .i64 0, .slice none 0 0, .int .i64 0, .slice none 0 0, .int .i64 h.number, .int .i64 h.size, .string h.root, .int .i64 h.taken, .string h.takenRoot], .int .i64 (k : Int)] w fun e w' => e = .returned (.int .i64 ((k + mh * 5 : Nat) : Int)) ∧ HMk w' vh k mh ∧ Frm (InBlock vh) w w' := by
  obtain ⟨Vh, ch, rfl, hnc⟩ := ownsRow_form ho
  have K0 := Lib.hid (Blk.new w 37 #[.int .i64 n, .slice none 0 0, .slice none 0 0, .slice Vh mh ch, .int .i64 0, .slice none 0 0, .int .i64 0, .slice none 0 0, .int .i64 h.number, .int .i64 h.size, .string h.root, .int .i64 h.taken, .string h.takenRoot])
  have He := Lib.hid (Ext.new (Below.refl w.heap.size w) (.cells #[.int .i64 n, .slice none 0 0, .slice none 0 0, .slice Vh mh ch, .int .i64 0, .slice none 0 0, .int .i64 0, .slice none 0 0, .int .i64 h.number, .int .i64 h.size, .string h.root, .int .i64 h.taken, .string h.takenRoot] 37))
  have HO := Lib.hid ho; clear ho
  go_enter Tryz.func31, Tryz.ntmps31
  go_wp2_with fail
  refine (markLog_nil _ _).mono ?_
  rintro e w1 ⟨rfl, h1⟩
  have he := He.out.next h1; have k0 := K0.out.ext h1
  clear He K0 h1
  obtain ⟨r0, f0⟩ := k0.rules
  go_wp2_with fail
  refine (markReceiptS_nil _ _).mono ?_
  rintro e w2 ⟨rfl, h1⟩
  replace he := he.next h1; replace k0 := k0.ext h1
  clear h1 r0 f0
  obtain ⟨r0, f0⟩ := k0.rules
  go_wp2_with fail
  refine (markHeadS_row (k := k) (ownsRow_ext HO.out he) (by omega) (by omega)).mono ?_
  rintro e w3 ⟨rfl, ⟨A, c, hA, s0⟩, f3⟩
  have M0 := Lib.hid (show HMk w3 (.slice Vh mh ch) k mh from ⟨A, c, hA, s0⟩)
  replace k0 := f3.blk k0 (fun e => by have := (HO.out.lt _ e).2; omega)
  have F0 := Lib.hid ((Frm.of_ext (X := InBlock (.slice Vh mh ch)) he).next f3 (fun b _ h => h))
  clear r0 f0 f3 s0 hA
  obtain ⟨r0, f0⟩ := k0.rules
  have R0 : Hid (w3.rangeAt w.heap.size 4 [.int .i64 0, .slice none 0 0, .int .i64 0, .slice none 0 0, .int .i64 h.number, .int .i64 h.size, .string h.root, .int .i64 h.taken, .string h.takenRoot]) := Lib.hid (fun j v hv => by
    rw [k0.cell]
    have hj : j < 9 := by have := (List.getElem?_eq_some_iff.1 hv).1; simpa using this
    match j, hj, hv with
    | 0, _, hv => exact hv
    | 1, _, hv => exact hv
    | 2, _, hv => exact hv
    | 3, _, hv => exact hv
    | 4, _, hv => exact hv
    | 5, _, hv => exact hv
    | 6, _, hv => exact hv
    | 7, _, hv => exact hv
    | 8, _, hv => exact hv)
  go_wp2_with (refine wpList_load_mid rfl 35 _ rfl w.heap.size 4 rfl [.int .i64 0, .slice none 0 0, .int .i64 0, .slice none 0 0, .int .i64 h.number, .int .i64 h.size, .string h.root, .int .i64 h.taken, .string h.takenRoot] _ R0.out Tryz.underlying35 rfl (by kernel_rfl) ?_)
  refine (markSeal_nil h _ _).mono ?_
  rintro e w4 ⟨rfl, h1⟩
  have M1 := M0.out.ext h1; have F1 := F0.out.ext h1
  go_wp2_with fail
  go_ret
  exact ⟨rfl, M1, F1⟩
set_option maxHeartbeats 2000000 in
set_option maxRecDepth 100000 in
theorem heldBroker_new {mh k : Nat} {vh : Value} (n : Int) (h : HeadD) (w : World) (hm : HMk w vh k mh) (hl : mh ≤ 1000) (hk : k ≤ 1000000) :
    Calls Tryz.prog 46 #[.agg #[.int .i64 n, .slice none 0 0, .slice none 0 0, vh, .int .i64 0, .slice none 0 0, .int .i64 0, .slice none 0 0, .int .i64 h.number, .int .i64 h.size, .string h.root, .int .i64 h.taken, .string h.takenRoot], .int .i64 (k : Int)] w fun e w' => e = .returned (.int .i64 ((k + mh * 5 : Nat) : Int)) ∧ Ext w w' := by
  obtain ⟨Vh, ch, rfl, s0⟩ := hm
  have S0 := Lib.hid s0; clear s0
  have K0 := Lib.hid (Blk.new w 37 #[.int .i64 n, .slice none 0 0, .slice none 0 0, .slice Vh mh ch, .int .i64 0, .slice none 0 0, .int .i64 0, .slice none 0 0, .int .i64 h.number, .int .i64 h.size, .string h.root, .int .i64 h.taken, .string h.takenRoot])
  have He := Lib.hid (Ext.new (Below.refl w.heap.size w) (.cells #[.int .i64 n, .slice none 0 0, .slice none 0 0, .slice Vh mh ch, .int .i64 0, .slice none 0 0, .int .i64 0, .slice none 0 0, .int .i64 h.number, .int .i64 h.size, .string h.root, .int .i64 h.taken, .string h.takenRoot] 37))
  have q0 : (0 : Int) ≤ (k : Int) := by omega
  have q1 : (0 : Int) ≤ ((k + mh * 5 : Nat) : Int) := by omega
  go_enter Tryz.func46, Tryz.ntmps46
  go_wp2_with fail
  refine (heldLog_nil _ _ q0).mono ?_
  rintro e w1 ⟨rfl, h1⟩
  have he := He.out.next h1; have k0 := K0.out.ext h1
  clear He K0 h1
  obtain ⟨r0, f0⟩ := k0.rules
  go_wp2_with fail
  refine (heldReceiptS_nil _ _).mono ?_
  rintro e w2 ⟨rfl, h1⟩
  replace he := he.next h1; replace k0 := k0.ext h1
  clear h1 r0 f0
  obtain ⟨r0, f0⟩ := k0.rules
  go_wp2_with fail
  refine (heldHeadS_any Vh mh ch k _ (S0.out.ext he).reads (by omega) (by omega)).mono ?_
  rintro e w3 ⟨rfl, h1⟩
  replace he := he.next h1; replace k0 := k0.ext h1
  clear h1 r0 f0
  obtain ⟨r0, f0⟩ := k0.rules
  have R0 : Hid (w3.rangeAt w.heap.size 4 [.int .i64 0, .slice none 0 0, .int .i64 0, .slice none 0 0, .int .i64 h.number, .int .i64 h.size, .string h.root, .int .i64 h.taken, .string h.takenRoot]) := Lib.hid (fun j v hv => by
    rw [k0.cell]
    have hj : j < 9 := by have := (List.getElem?_eq_some_iff.1 hv).1; simpa using this
    match j, hj, hv with
    | 0, _, hv => exact hv
    | 1, _, hv => exact hv
    | 2, _, hv => exact hv
    | 3, _, hv => exact hv
    | 4, _, hv => exact hv
    | 5, _, hv => exact hv
    | 6, _, hv => exact hv
    | 7, _, hv => exact hv
    | 8, _, hv => exact hv)
  go_wp2_with (refine wpList_load_mid rfl 35 _ rfl w.heap.size 4 rfl [.int .i64 0, .slice none 0 0, .int .i64 0, .slice none 0 0, .int .i64 h.number, .int .i64 h.size, .string h.root, .int .i64 h.taken, .string h.takenRoot] _ R0.out Tryz.underlying35 rfl (by kernel_rfl) ?_)
  refine (heldSeal_nil h _ _ q1).mono ?_
  rintro e w4 ⟨rfl, h1⟩
  replace he := he.next h1
  go_wp2_with fail
  go_ret
  exact ⟨rfl, he⟩
theorem markDisk_row {K md k : Nat} {vd : Value} {a : List Value} (w : World) (ho : w.ownsRow K 9 1 vd md a) (hl : md ≤ 1000) (hk : k ≤ 1000000) :
    Calls Tryz.prog 44 #[.agg #[vd], .int .i64 (k : Int)] w fun e w' => e = .returned (.int .i64 ((k + md : Nat) : Int)) ∧ SMk w' vd k md ∧ Frm (InBlock vd) w w' := by
  obtain ⟨Vd, cd, rfl, hnc⟩ := ownsRow_form ho
  have He := Lib.hid (Ext.new (Below.refl w.heap.size w) (.cells #[.slice Vd md cd] 49))
  have HO := Lib.hid ho; clear ho
  go_enter Tryz.func44, Tryz.ntmps44
  go_wp2_with fail
  refine (markStringS_row (k := k) (ownsRow_ext HO.out He.out) (by omega) (by omega)).mono ?_
  rintro e w1 ⟨rfl, m1, f1⟩
  have M1 := Lib.hid m1
  have F1 := Lib.hid ((Frm.of_ext (X := InBlock (.slice Vd md cd)) He.out).next f1 (fun b _ h => h))
  clear m1 f1
  go_wp2_with fail
  go_ret
  exact ⟨rfl, M1.out, F1.out⟩
theorem heldDisk_row {md k : Nat} {vd : Value} (w : World) (hm : SMk w vd k md) (hf : ∃ A c, vd = .slice A md c) (hl : md ≤ 1000) (hk : k ≤ 1000000) :
    Calls Tryz.prog 101 #[.agg #[vd], .int .i64 (k : Int)] w fun e w' => e = .returned (.int .i64 ((k + md : Nat) : Int)) ∧ Ext w w' := by
  obtain ⟨Vd, cd, rfl⟩ := hf
  have HM := Lib.hid hm; clear hm
  have He := Lib.hid (Ext.new (Below.refl w.heap.size w) (.cells #[.slice Vd md cd] 49))
  have q0 : (0 : Int) ≤ ((k + md : Nat) : Int) := by omega
  go_enter Tryz.func101, Tryz.ntmps101
  go_wp2_with fail
  refine (heldStringS_row (HM.out.ext He.out) (by omega) (by omega)).mono ?_
  rintro e w1 ⟨rfl, h1⟩
  have he := He.out.next h1
  go_wp2_with fail
  go_ret
  exact ⟨rfl, he⟩
/-- A world's rows hold what marking wrote. -/
structure WMk (w : World) (vh vd vc : Value) (mh md mc : Nat) : Prop where
  h : HMk w vh 1 mh
  d : SMk w vd (1 + mh * 5) md
  c : CMk w vc (1 + mh * 5 + md) mc
  f : ∃ A c, vd = .slice A md c
theorem WMk.ext {w w' : World} {vh vd vc : Value} {mh md mc : Nat} (k : WMk w vh vd vc mh md mc) (he : Ext w w') : WMk w' vh vd vc mh md mc := ⟨k.h.ext he, k.d.ext he, k.c.ext he, k.f⟩
def WBlk (vh vd vc : Value) (b : Nat) : Prop := InBlock vh b ∨ InBlock vd b ∨ InBlock vc b
set_option maxHeartbeats 4000000 in
set_option maxRecDepth 100000 in
theorem markWorld_new {K : Nat} {vh vd vc : Value} {hs : List HeadD} {ds : List ByteArray} {cs : List CliZ} (n : Int) (h : HeadD) (w : World) (hR : WRows K w vh vd vc hs ds cs) (h1 : hs.length ≤ 1000) (h2 : ds.length ≤ 1000) (h3 : cs.length ≤ 1000) :
    Calls Tryz.prog 39 #[.agg (worldC n vh vd vc h).toArray, .int .i64 1] w fun e w' => e = .returned (.int .i64 ((1 + hs.length * 5 + ds.length + cs.length * 7 : Nat) : Int)) ∧ WMk w' vh vd vc hs.length ds.length cs.length ∧ Frm (WBlk vh vd vc) w w' := by
  obtain ⟨Vh, ch, rfl, _⟩ := ownsRow_form hR.h
  obtain ⟨Vd, cd, rfl, _⟩ := ownsRow_form hR.d
  obtain ⟨Vc, cc, rfl, _⟩ := ownsRow_form hR.c
  have RR := Lib.hid hR; clear hR
  obtain ⟨mh, hmh⟩ : ∃ mh, mh = hs.length := ⟨_, rfl⟩
  obtain ⟨md, hmd⟩ : ∃ md, md = ds.length := ⟨_, rfl⟩
  obtain ⟨mc, hmc⟩ : ∃ mc, mc = cs.length := ⟨_, rfl⟩
  rw [← hmh] at h1 RR ⊢
  rw [← hmd] at h2 RR ⊢
  rw [← hmc] at h3 RR ⊢
  have RH := Lib.hid (show w.ownsRow K 33 5 (.slice Vh mh ch) mh (hs.flatMap HeadD.cells) by rw [hmh]; have := RR.out.h; rw [← hmh] at this; rw [hmh] at this; exact this)
  have RD := Lib.hid (show w.ownsRow K 9 1 (.slice Vd md cd) md (ds.flatMap sone) by rw [hmd]; have := RR.out.d; rw [← hmd] at this; rw [hmd] at this; exact this)
  have RC := Lib.hid (show w.ownsRow K 142 8 (.slice Vc mc cc) mc (cs.flatMap CliZ.cells) by rw [hmc]; have := RR.out.c; rw [← hmc] at this; rw [hmc] at this; exact this)
  have DJ := Lib.hid (⟨RR.out.hd, RR.out.hc, RR.out.dc⟩ : _ ∧ _ ∧ _)
  have HC := Lib.hid hmc.symm
  clear RR hmh hmd hmc
  have K0 := Lib.hid (Blk.new w 80 #[.int .i64 n, .slice none 0 0, .slice none 0 0, .slice Vh mh ch, .int .i64 0, .slice none 0 0, .int .i64 0, .slice none 0 0, .int .i64 h.number, .int .i64 h.size, .string h.root, .int .i64 h.taken, .string h.takenRoot, .slice Vd md cd, .slice Vc mc cc, .slice none 0 0, .slice none 0 0])
  have He := Lib.hid (Ext.new (Below.refl w.heap.size w) (.cells #[.int .i64 n, .slice none 0 0, .slice none 0 0, .slice Vh mh ch, .int .i64 0, .slice none 0 0, .int .i64 0, .slice none 0 0, .int .i64 h.number, .int .i64 h.size, .string h.root, .int .i64 h.taken, .string h.takenRoot, .slice Vd md cd, .slice Vc mc cc, .slice none 0 0, .slice none 0 0] 80))
  simp only [worldC]
  go_enter Tryz.func39, Tryz.ntmps39
  have k0 := K0.out
  have RB : Hid ((w.alloc (.cells #[.int .i64 n, .slice none 0 0, .slice none 0 0, .slice Vh mh ch, .int .i64 0, .slice none 0 0, .int .i64 0, .slice none 0 0, .int .i64 h.number, .int .i64 h.size, .string h.root, .int .i64 h.taken, .string h.takenRoot, .slice Vd md cd, .slice Vc mc cc, .slice none 0 0, .slice none 0 0] 80)).rangeAt w.heap.size 0 [.int .i64 n, .slice none 0 0, .slice none 0 0, .slice Vh mh ch, .int .i64 0, .slice none 0 0, .int .i64 0, .slice none 0 0, .int .i64 h.number, .int .i64 h.size, .string h.root, .int .i64 h.taken, .string h.takenRoot]) := Lib.hid (fun j v hv => by
    rw [k0.cell, Nat.zero_add]
    have hj : j < 13 := by have := (List.getElem?_eq_some_iff.1 hv).1; simpa using this
    match j, hj, hv with
    | 0, _, hv => exact hv
    | 1, _, hv => exact hv
    | 2, _, hv => exact hv
    | 3, _, hv => exact hv
    | 4, _, hv => exact hv
    | 5, _, hv => exact hv
    | 6, _, hv => exact hv
    | 7, _, hv => exact hv
    | 8, _, hv => exact hv
    | 9, _, hv => exact hv
    | 10, _, hv => exact hv
    | 11, _, hv => exact hv
    | 12, _, hv => exact hv)
  clear k0
  go_wp2_with (refine wpList_load_mid rfl 37 _ rfl w.heap.size 0 rfl [.int .i64 n, .slice none 0 0, .slice none 0 0, .slice Vh mh ch, .int .i64 0, .slice none 0 0, .int .i64 0, .slice none 0 0, .int .i64 h.number, .int .i64 h.size, .string h.root, .int .i64 h.taken, .string h.takenRoot] _ RB.out Tryz.underlying37 rfl (by kernel_rfl) ?_)
  refine (markBroker_new (k := 1) n h _ (ownsRow_ext RH.out He.out) (by omega) (by decide)).mono ?_
  rintro e w1 ⟨rfl, m1, f1⟩
  have M1 := Lib.hid m1
  have k0 := f1.blk K0.out (fun e => by have := (RH.out.lt _ e).2; omega)
  have F1 := Lib.hid ((Frm.of_ext (X := WBlk (.slice Vh mh ch) (.slice Vd md cd) (.slice Vc mc cc)) He.out).next f1 (fun b _ h => .inl h))
  have D1 := Lib.hid (f1.own (ownsRow_ext RD.out He.out) (fun b h e => DJ.out.1 b e h))
  have C1 := Lib.hid (f1.own (ownsRow_ext RC.out He.out) (fun b h e => DJ.out.2.1 b e h))
  clear m1 f1 RB
  obtain ⟨r0, f0⟩ := k0.rules
  go_wp2_with fail
  refine (markDisk_row (k := 1 + mh * 5) _ D1.out (by omega) (by omega)).mono ?_
  rintro e w2 ⟨rfl, m2, f2⟩
  have M2 := Lib.hid m2
  replace M1 := Lib.hid (M1.out.frm f2 (fun b h e => DJ.out.1 b h e))
  replace k0 := f2.blk k0 (fun e => by have := (RD.out.lt _ e).2; omega)
  have F2 := Lib.hid (F1.out.next f2 (fun b _ h => .inr (.inl h)))
  have C2 := Lib.hid (f2.own C1.out (fun b h e => DJ.out.2.2 b e h))
  clear m2 f2 F1 r0 f0
  obtain ⟨r0, f0⟩ := k0.rules
  go_wp2_with fail
  refine (markCliS_own (k := 1 + mh * 5 + md) C2.out HC.out (by omega) (by omega)).mono ?_
  rintro e w3 ⟨rfl, ⟨A, c, hA, s3⟩, f3⟩
  have W3 := Lib.hid (show WMk w3 (.slice Vh mh ch) (.slice Vd md cd) (.slice Vc mc cc) mh md mc from ⟨M1.out.frm f3 (fun b h e => DJ.out.2.1 b h e), M2.out.frm f3 (fun b h e => DJ.out.2.2 b h e), ⟨A, c, hA, s3⟩, ⟨_, _, rfl⟩⟩)
  replace k0 := f3.blk k0 (fun e => by have := (RC.out.lt _ e).2; omega)
  have F3 := Lib.hid (F2.out.next f3 (fun b _ h => .inr (.inr h)))
  clear hA s3 f3 F2 r0 f0 M1 M2
  obtain ⟨r0, f0⟩ := k0.rules
  go_wp2_with fail
  refine (markGivenS_nil _ _).mono ?_
  rintro e w4 ⟨rfl, h4⟩
  replace k0 := k0.ext h4; replace F3 := Lib.hid (F3.out.ext h4); replace W3 := Lib.hid (W3.out.ext h4)
  clear h4 r0 f0
  obtain ⟨r0, f0⟩ := k0.rules
  go_wp2_with fail
  refine (markItemS_nil _ _).mono ?_
  rintro e w5 ⟨rfl, h4⟩
  replace F3 := Lib.hid (F3.out.ext h4); replace W3 := Lib.hid (W3.out.ext h4)
  clear h4 r0 f0
  go_wp2_with fail
  go_ret
  exact ⟨rfl, W3.out, F3.out⟩
set_option maxHeartbeats 4000000 in
set_option maxRecDepth 100000 in
theorem heldWorld_new {vh vd vc : Value} {mh md mc : Nat} (n : Int) (h : HeadD) (w : World) (hM : WMk w vh vd vc mh md mc) (h1 : mh ≤ 1000) (h2 : md ≤ 1000) (h3 : mc ≤ 1000) :
    Calls Tryz.prog 40 #[.agg (worldC n vh vd vc h).toArray, .int .i64 1] w fun e w' => e = .returned (.int .i64 ((1 + mh * 5 + md + mc * 7 : Nat) : Int)) ∧ Ext w w' := by
  obtain ⟨Vh, ch, rfl, s0⟩ := hM.h
  obtain ⟨Vd, cd, rfl⟩ := hM.f
  obtain ⟨Vc, cc, rfl, s2⟩ := hM.c
  have MH := Lib.hid (show HMk w (.slice Vh mh ch) 1 mh from ⟨_, _, rfl, s0⟩)
  have MD := Lib.hid hM.d
  have S2 := Lib.hid s2
  clear s0 s2 hM
  have K0 := Lib.hid (Blk.new w 80 #[.int .i64 n, .slice none 0 0, .slice none 0 0, .slice Vh mh ch, .int .i64 0, .slice none 0 0, .int .i64 0, .slice none 0 0, .int .i64 h.number, .int .i64 h.size, .string h.root, .int .i64 h.taken, .string h.takenRoot, .slice Vd md cd, .slice Vc mc cc, .slice none 0 0, .slice none 0 0])
  have He := Lib.hid (Ext.new (Below.refl w.heap.size w) (.cells #[.int .i64 n, .slice none 0 0, .slice none 0 0, .slice Vh mh ch, .int .i64 0, .slice none 0 0, .int .i64 0, .slice none 0 0, .int .i64 h.number, .int .i64 h.size, .string h.root, .int .i64 h.taken, .string h.takenRoot, .slice Vd md cd, .slice Vc mc cc, .slice none 0 0, .slice none 0 0] 80))
  have q0 : (0 : Int) ≤ ((1 + mh * 5 : Nat) : Int) := by omega
  have q1 : (0 : Int) ≤ ((1 + mh * 5 + md : Nat) : Int) := by omega
  have q2 : (0 : Int) ≤ ((1 + mh * 5 + md + mc * 7 : Nat) : Int) := by omega
  simp only [worldC]
  go_enter Tryz.func40, Tryz.ntmps40
  have k0 := K0.out
  have RB : Hid ((w.alloc (.cells #[.int .i64 n, .slice none 0 0, .slice none 0 0, .slice Vh mh ch, .int .i64 0, .slice none 0 0, .int .i64 0, .slice none 0 0, .int .i64 h.number, .int .i64 h.size, .string h.root, .int .i64 h.taken, .string h.takenRoot, .slice Vd md cd, .slice Vc mc cc, .slice none 0 0, .slice none 0 0] 80)).rangeAt w.heap.size 0 [.int .i64 n, .slice none 0 0, .slice none 0 0, .slice Vh mh ch, .int .i64 0, .slice none 0 0, .int .i64 0, .slice none 0 0, .int .i64 h.number, .int .i64 h.size, .string h.root, .int .i64 h.taken, .string h.takenRoot]) := Lib.hid (fun j v hv => by
    rw [k0.cell, Nat.zero_add]
    have hj : j < 13 := by have := (List.getElem?_eq_some_iff.1 hv).1; simpa using this
    match j, hj, hv with
    | 0, _, hv => exact hv
    | 1, _, hv => exact hv
    | 2, _, hv => exact hv
    | 3, _, hv => exact hv
    | 4, _, hv => exact hv
    | 5, _, hv => exact hv
    | 6, _, hv => exact hv
    | 7, _, hv => exact hv
    | 8, _, hv => exact hv
    | 9, _, hv => exact hv
    | 10, _, hv => exact hv
    | 11, _, hv => exact hv
    | 12, _, hv => exact hv)
  clear k0
  go_wp2_with (refine wpList_load_mid rfl 37 _ rfl w.heap.size 0 rfl [.int .i64 n, .slice none 0 0, .slice none 0 0, .slice Vh mh ch, .int .i64 0, .slice none 0 0, .int .i64 0, .slice none 0 0, .int .i64 h.number, .int .i64 h.size, .string h.root, .int .i64 h.taken, .string h.takenRoot] _ RB.out Tryz.underlying37 rfl (by kernel_rfl) ?_)
  refine (heldBroker_new (k := 1) n h _ (MH.out.ext He.out) (by omega) (by decide)).mono ?_
  rintro e w1 ⟨rfl, h4⟩
  have k0 := K0.out.ext h4; have he := He.out.next h4
  clear h4 K0 He RB MH
  obtain ⟨r0, f0⟩ := k0.rules
  go_wp2_with fail
  refine (heldDisk_row (k := 1 + mh * 5) _ (MD.out.ext he) ⟨_, _, rfl⟩ (by omega) (by omega)).mono ?_
  rintro e w2 ⟨rfl, h4⟩
  replace k0 := k0.ext h4; replace he := he.next h4
  clear h4 r0 f0 MD
  obtain ⟨r0, f0⟩ := k0.rules
  go_wp2_with fail
  refine (heldClientS_z Vc mc cc (1 + mh * 5 + md) _ (S2.out.ext he).reads (by omega) (by omega)).mono ?_
  rintro e w3 ⟨rfl, h4⟩
  replace k0 := k0.ext h4; replace he := he.next h4
  clear h4 r0 f0 S2
  obtain ⟨r0, f0⟩ := k0.rules
  go_wp2_with fail
  refine (heldGivenS_nil _ _).mono ?_
  rintro e w4 ⟨rfl, h4⟩
  replace k0 := k0.ext h4; replace he := he.next h4
  clear h4 r0 f0
  obtain ⟨r0, f0⟩ := k0.rules
  go_wp2_with fail
  refine (heldItemS_nil _ _).mono ?_
  rintro e w5 ⟨rfl, h4⟩
  replace he := he.next h4
  clear h4 r0 f0
  go_wp2_with fail
  go_ret
  exact ⟨rfl, he⟩
end Go.Proofs.YtkcjhfidgnbdiaaGreat

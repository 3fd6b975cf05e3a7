/-
  The program's ShowWorld returns what the reference's returns, for all arguments, where the library's tables hold what the card ties to the program's text. Written by program (gen_showworld3.py). No other condition.
-/
import Derived.Test.YtichegndafnjeaaDoorRows
import Derived.Test.YtichegndafnjeaaDoorTie
import Derived.Test.YtichegndafnjeaaDoorCards
import Derived.Test.YtichegndafnjeaaDoorFacts
import Derived.Test.YtichegndafnjeaaDoorLiftL
import Derived.Test.YtichegndafnjeaaDoorWorldIn
import Derived.Test.YtichegndafnjeaaDoorShowWd
import Derived.Test.YtichegndafnjeaaDoorShowWd2
import Derived.MakeChecks
import Derived.Stop.LaidErr
import Derived.SevenTiedAt
namespace Go.Proofs.YtichegndafnjeaaDoor
set_option linter.unusedSimpArgs false
open Go.RowKit Go.WideShapes Go.ChangeAt
set_option linter.unusedVariables false

def worldOf (d : WorldD) : ByteArray := worldLine d.broker.log.entries.length d.broker.receipts.length d.broker.heads.length d.given.length (rootWord d.broker.heads)
theorem specShowWorld_in (d : WorldD) (cs : List Value) (w : World) (h : WorldD.In AnyB w cs d) (hok : d.Ok) :
    Calls Tryd.prog 5 #[.agg cs.toArray] w fun e w' => e = .returned (.string (worldOf d)) ∧ Ext w w' := by
  obtain ⟨A0, c0, A1, c1, A2, c2, A3, c3, A4, c4, A5, c5, A6, c6, A7, c7, A8, c8, rfl, s0, s1, s2, s3, s4, s5, s6, s7, s8⟩ := h
  exact specShowWorld_core _ A0 A1 A2 A7 c0 c1 c2 c7 _ _ _ _ d.broker.heads w rfl rfl rfl rfl rfl rfl s2 s0.len s1.len s7.len (fun x hx => (hok.1.2.2.2.1 x hx).2.2.1)
theorem implShowWorld_in (d : WorldD) (cs : List Value) (w : World) (h : WorldD.In AnyB w cs d) (hok : d.Ok) (ht : Tab w) :
    Calls Tryd.prog 7 #[.agg cs.toArray] w fun e w' => e = .returned (.string (worldOf d)) ∧ Ext w w' := by
  obtain ⟨A0, c0, A1, c1, A2, c2, A3, c3, A4, c4, A5, c5, A6, c6, A7, c7, A8, c8, rfl, s0, s1, s2, s3, s4, s5, s6, s7, s8⟩ := h
  exact implShowWorld_core _ A0 A1 A2 A7 c0 c1 c2 c7 _ _ _ _ d.broker.heads w rfl rfl rfl rfl rfl rfl s2 s0.len s1.len s7.len (fun x hx => (hok.1.2.2.2.1 x hx).2.2.1) ht
set_option maxHeartbeats 4000000 in
set_option maxRecDepth 100000 in
theorem lawShowWorld_walk (d : WorldD) (A0 : Option Addr) (c0 : Nat) (A1 : Option Addr) (c1 : Nat) (A2 : Option Addr) (c2 : Nat) (A3 : Option Addr) (c3 : Nat) (A4 : Option Addr) (c4 : Nat) (A5 : Option Addr) (c5 : Nat) (A6 : Option Addr) (c6 : Nat) (A7 : Option Addr) (c7 : Nat) (A8 : Option Addr) (c8 : Nat) (w : World) (hok : d.Ok) (hIn : WorldD.In AnyB w [.int .i64 d.broker.width, .slice A0 d.broker.log.entries.length c0, .slice A1 d.broker.receipts.length c1, .slice A2 d.broker.heads.length c2, .int .i64 d.broker.sealed.leaves.size, .slice A3 d.broker.sealed.leaves.peaks.length c3, .int .i64 d.broker.sealed.taken.size, .slice A4 d.broker.sealed.taken.peaks.length c4, .int .i64 d.broker.sealed.head.number, .int .i64 d.broker.sealed.head.size, .string d.broker.sealed.head.root, .int .i64 d.broker.sealed.head.taken, .string d.broker.sealed.head.takenRoot, .slice A5 d.disk.files.length c5, .slice A6 d.clients.length c6, .slice A7 d.given.length c7, .slice A8 d.items.length c8] d) (htab : Tab w) :
    Calls Tryd.prog 3 #[.agg #[.int .i64 d.broker.width, .slice A0 d.broker.log.entries.length c0, .slice A1 d.broker.receipts.length c1, .slice A2 d.broker.heads.length c2, .int .i64 d.broker.sealed.leaves.size, .slice A3 d.broker.sealed.leaves.peaks.length c3, .int .i64 d.broker.sealed.taken.size, .slice A4 d.broker.sealed.taken.peaks.length c4, .int .i64 d.broker.sealed.head.number, .int .i64 d.broker.sealed.head.size, .string d.broker.sealed.head.root, .int .i64 d.broker.sealed.head.taken, .string d.broker.sealed.head.takenRoot, .slice A5 d.disk.files.length c5, .slice A6 d.clients.length c6, .slice A7 d.given.length c7, .slice A8 d.items.length c8]] w fun e w' => e = .returned (.bool true) ∧ Ext w w' := by
  have K0 := Blk.new w 42 #[.int .i64 d.broker.width, .slice A0 d.broker.log.entries.length c0, .slice A1 d.broker.receipts.length c1, .slice A2 d.broker.heads.length c2, .int .i64 d.broker.sealed.leaves.size, .slice A3 d.broker.sealed.leaves.peaks.length c3, .int .i64 d.broker.sealed.taken.size, .slice A4 d.broker.sealed.taken.peaks.length c4, .int .i64 d.broker.sealed.head.number, .int .i64 d.broker.sealed.head.size, .string d.broker.sealed.head.root, .int .i64 d.broker.sealed.head.taken, .string d.broker.sealed.head.takenRoot, .slice A5 d.disk.files.length c5, .slice A6 d.clients.length c6, .slice A7 d.given.length c7, .slice A8 d.items.length c8]
  have he := Ext.new (Below.refl w.heap.size w) (.cells #[.int .i64 d.broker.width, .slice A0 d.broker.log.entries.length c0, .slice A1 d.broker.receipts.length c1, .slice A2 d.broker.heads.length c2, .int .i64 d.broker.sealed.leaves.size, .slice A3 d.broker.sealed.leaves.peaks.length c3, .int .i64 d.broker.sealed.taken.size, .slice A4 d.broker.sealed.taken.peaks.length c4, .int .i64 d.broker.sealed.head.number, .int .i64 d.broker.sealed.head.size, .string d.broker.sealed.head.root, .int .i64 d.broker.sealed.head.taken, .string d.broker.sealed.head.takenRoot, .slice A5 d.disk.files.length c5, .slice A6 d.clients.length c6, .slice A7 d.given.length c7, .slice A8 d.items.length c8] 42)
  obtain ⟨C, hC⟩ : ∃ C : List Value, C = [.int .i64 d.broker.width, .slice A0 d.broker.log.entries.length c0, .slice A1 d.broker.receipts.length c1, .slice A2 d.broker.heads.length c2, .int .i64 d.broker.sealed.leaves.size, .slice A3 d.broker.sealed.leaves.peaks.length c3, .int .i64 d.broker.sealed.taken.size, .slice A4 d.broker.sealed.taken.peaks.length c4, .int .i64 d.broker.sealed.head.number, .int .i64 d.broker.sealed.head.size, .string d.broker.sealed.head.root, .int .i64 d.broker.sealed.head.taken, .string d.broker.sealed.head.takenRoot, .slice A5 d.disk.files.length c5, .slice A6 d.clients.length c6, .slice A7 d.given.length c7, .slice A8 d.items.length c8] := ⟨_, rfl⟩
  have SI := Lib.hid (show WorldD.In AnyB w C d from by rw [hC]; exact hIn)
  have RG := Lib.hid (show (w.alloc (.cells #[.int .i64 d.broker.width, .slice A0 d.broker.log.entries.length c0, .slice A1 d.broker.receipts.length c1, .slice A2 d.broker.heads.length c2, .int .i64 d.broker.sealed.leaves.size, .slice A3 d.broker.sealed.leaves.peaks.length c3, .int .i64 d.broker.sealed.taken.size, .slice A4 d.broker.sealed.taken.peaks.length c4, .int .i64 d.broker.sealed.head.number, .int .i64 d.broker.sealed.head.size, .string d.broker.sealed.head.root, .int .i64 d.broker.sealed.head.taken, .string d.broker.sealed.head.takenRoot, .slice A5 d.disk.files.length c5, .slice A6 d.clients.length c6, .slice A7 d.given.length c7, .slice A8 d.items.length c8] 42)).rangeAt w.heap.size 0 C by rw [hC]; exact K0.range)
  have HL := Lib.hid (WorldD.in_len SI.out)
  have Hok := Lib.hid hok; clear hok hIn hC
  have lg := K0.lt; clear K0
  by_cases cz : szL d.lens 1048576 < 0
  · go_enter Tryd.func3, Tryd.ntmps3
    go_wp2_with (refine wpList_load_mid rfl 42 _ rfl w.heap.size 0 rfl C _ RG.out Tryd.underlying42 rfl (by rw [HL.out]; kernel_rfl) ?_)
    obtain ⟨g, hg⟩ : ∃ g, g = w.heap.size := ⟨_, rfl⟩
    rw [← hg] at RG lg
    rw [← hg]
    clear hg
    generalize w.alloc (.cells #[.int .i64 d.broker.width, .slice A0 d.broker.log.entries.length c0, .slice A1 d.broker.receipts.length c1, .slice A2 d.broker.heads.length c2, .int .i64 d.broker.sealed.leaves.size, .slice A3 d.broker.sealed.leaves.peaks.length c3, .int .i64 d.broker.sealed.taken.size, .slice A4 d.broker.sealed.taken.peaks.length c4, .int .i64 d.broker.sealed.head.number, .int .i64 d.broker.sealed.head.size, .string d.broker.sealed.head.root, .int .i64 d.broker.sealed.head.taken, .string d.broker.sealed.head.takenRoot, .slice A5 d.disk.files.length c5, .slice A6 d.clients.length c6, .slice A7 d.given.length c7, .slice A8 d.items.length c8] 42) = w0 at *
    refine (szWorld_in d C _ _ Hok.out (WorldD.inExt SI.out he) (by decide) (by decide)).mono ?_
    rintro e w1 ⟨rfl, h1⟩
    have RG1 := Lib.hid (range_ext RG.out h1 lg); have lg1 := Nat.lt_of_lt_of_le lg h1.size
    replace he := he.next h1; clear h1
    go_wp2_with fail
    go_ret
    exact ⟨rfl, he⟩
  have hf := szL_fit (by decide) (by decide) cz
  have SP : Hid (∀ (cs : List Value) (w : World), WorldD.In AnyB w cs d → Calls Tryd.prog 5 #[.agg cs.toArray] w fun e w' => e = .returned (.string (worldOf d)) ∧ Ext w w') := Lib.hid (fun cs w h => specShowWorld_in d cs w h Hok.out)
  have IM : Hid (∀ (cs : List Value) (w : World), WorldD.In AnyB w cs d → Tab w → Calls Tryd.prog 7 #[.agg cs.toArray] w fun e w' => e = .returned (.string (worldOf d)) ∧ Ext w w') := Lib.hid (fun cs w h t => implShowWorld_in d cs w h Hok.out t)
  generalize worldOf d = r0 at SP IM
  have HTab := Lib.hid htab; clear htab
  go_enter Tryd.func3, Tryd.ntmps3
  go_wp2_with (refine wpList_load_mid rfl 42 _ rfl w.heap.size 0 rfl C _ RG.out Tryd.underlying42 rfl (by rw [HL.out]; kernel_rfl) ?_)
  obtain ⟨g, hg⟩ : ∃ g, g = w.heap.size := ⟨_, rfl⟩
  rw [← hg] at RG lg
  rw [← hg]
  clear hg
  generalize w.alloc (.cells #[.int .i64 d.broker.width, .slice A0 d.broker.log.entries.length c0, .slice A1 d.broker.receipts.length c1, .slice A2 d.broker.heads.length c2, .int .i64 d.broker.sealed.leaves.size, .slice A3 d.broker.sealed.leaves.peaks.length c3, .int .i64 d.broker.sealed.taken.size, .slice A4 d.broker.sealed.taken.peaks.length c4, .int .i64 d.broker.sealed.head.number, .int .i64 d.broker.sealed.head.size, .string d.broker.sealed.head.root, .int .i64 d.broker.sealed.head.taken, .string d.broker.sealed.head.takenRoot, .slice A5 d.disk.files.length c5, .slice A6 d.clients.length c6, .slice A7 d.given.length c7, .slice A8 d.items.length c8] 42) = w0 at *
  refine (szWorld_in d C _ _ Hok.out (WorldD.inExt SI.out he) (by decide) (by decide)).mono ?_
  rintro e w1 ⟨rfl, h1⟩
  have RG1 := Lib.hid (range_ext RG.out h1 lg); have lg1 := Nat.lt_of_lt_of_le lg h1.size
  replace he := he.next h1; clear h1
  go_wp2_with (refine wpList_load_mid rfl 42 _ rfl g 0 rfl C _ RG1.out Tryd.underlying42 rfl (by rw [HL.out]; kernel_rfl) ?_)
  refine (toWorld_in d C _ (WorldD.inExt SI.out he) hf).mono ?_
  rintro e w2 ⟨cs, rfl, i2, h1⟩
  have RG2 := Lib.hid (range_ext RG1.out h1 lg1); have lg2 := Nat.lt_of_lt_of_le lg1 h1.size; replace he := he.next h1; clear h1 RG1 lg1
  go_wp2_with fail
  refine (SP.out cs _ (WorldD.inAny i2)).mono ?_
  rintro e w3 ⟨rfl, h1⟩
  have RG3 := Lib.hid (range_ext RG2.out h1 lg2); have lg3 := Nat.lt_of_lt_of_le lg2 h1.size; replace he := he.next h1; clear h1 RG2 lg2 SP i2
  go_wp2_with (refine wpList_load_mid rfl 42 _ rfl g 0 rfl C _ RG3.out Tryd.underlying42 rfl (by rw [HL.out]; kernel_rfl) ?_)
  refine (toWorld_in d C _ (WorldD.inExt SI.out he) hf).mono ?_
  rintro e w4 ⟨X, rfl, i4, h1⟩
  have RG4 := Lib.hid (range_ext RG3.out h1 lg3); have lg4 := Nat.lt_of_lt_of_le lg3 h1.size; replace he := he.next h1; clear h1 RG3 lg3
  have hxl := WorldD.in_len i4
  have hx1 := Lib.hid (WorldD.one i4)
  have bz := Blk.new w4 61 #[.int .i64 0, .slice none 0 0, .slice none 0 0, .slice none 0 0, .int .i64 0, .slice none 0 0, .int .i64 0, .slice none 0 0, .int .i64 0, .int .i64 0, .string ⟨#[]⟩, .int .i64 0, .string ⟨#[]⟩, .slice none 0 0, .slice none 0 0, .slice none 0 0, .slice none 0 0]
  have TH := Lib.hid (show (w4.alloc (.cells #[.int .i64 0, .slice none 0 0, .slice none 0 0, .slice none 0 0, .int .i64 0, .slice none 0 0, .int .i64 0, .slice none 0 0, .int .i64 0, .int .i64 0, .string ⟨#[]⟩, .int .i64 0, .string ⟨#[]⟩, .slice none 0 0, .slice none 0 0, .slice none 0 0, .slice none 0 0] 61)).there w4.heap.size 0 X.length by rw [hxl]; exact Blk.there bz 0 17 (by simp))
  have bx := Lib.hid (bz.put 0 X X.toArray (by simp [hxl]) (by simp [hxl]))
  clear bz
  have E45 := Lib.hid (ext_setCells (Nat.le_refl _) X 0 _ (Ext.new (Below.refl w4.heap.size w4) (.cells #[.int .i64 0, .slice none 0 0, .slice none 0 0, .slice none 0 0, .int .i64 0, .slice none 0 0, .int .i64 0, .slice none 0 0, .int .i64 0, .int .i64 0, .string ⟨#[]⟩, .int .i64 0, .string ⟨#[]⟩, .slice none 0 0, .slice none 0 0, .slice none 0 0, .slice none 0 0] 61)))
  have HX := Lib.hid hxl; clear hxl
  go_wp2_with (first | (refine wpList_store_list rfl 61 _ _ rfl rfl w4.heap.size 0 X rfl rfl TH.out (by rw [HX.out]; kernel_rfl) hx1.out ?_; clear TH; generalize (w4.alloc (.cells #[.int .i64 0, .slice none 0 0, .slice none 0 0, .slice none 0 0, .int .i64 0, .slice none 0 0, .int .i64 0, .slice none 0 0, .int .i64 0, .int .i64 0, .string ⟨#[]⟩, .int .i64 0, .string ⟨#[]⟩, .slice none 0 0, .slice none 0 0, .slice none 0 0, .slice none 0 0] 61)).setCells w4.heap.size 0 X = w5 at E45 bx ⊢) | (refine wpList_load_mid rfl 61 _ rfl w4.heap.size 0 rfl X _ (Blk.range bx.out) Tryd.underlying61 rfl (by rw [HX.out]; kernel_rfl) ?_))
  have RG5 := Lib.hid (range_ext RG4.out E45.out lg4); have lg5 := Nat.lt_of_lt_of_le lg4 E45.out.size; replace he := he.next E45.out; have i5 := WorldD.inExt i4 E45.out; clear RG4 lg4 i4
  have lx := bx.out.lt; have RX := Lib.hid (Blk.range bx.out)
  obtain ⟨gx, hgx⟩ : ∃ gx, gx = w4.heap.size := ⟨_, rfl⟩
  rw [← hgx] at lx RX
  rw [← hgx]
  clear hgx E45 bx
  refine (IM.out X _ (WorldD.inAny i5) (HTab.out.ext he)).mono ?_
  rintro e w6 ⟨rfl, h1⟩
  have RG6 := Lib.hid (range_ext RG5.out h1 lg5); have lg6 := Nat.lt_of_lt_of_le lg5 h1.size; have RX6 := Lib.hid (range_ext RX.out h1 lx); have lx6 := Nat.lt_of_lt_of_le lx h1.size; replace he := he.next h1; have i6 := WorldD.inExt i5 h1; clear h1 RG5 lg5 RX lx i5 IM
  go_wp2_with fail
  refine wp_region_held_drew (S := fun w' => Ext w6 w') (by kernel_rfl) ⟨rfl, rfl, rfl, Nat.le_refl _, fun _ _ => rfl⟩ (fun hHeld => ?_)
  refine wpAnyH_take (i := 0) (oi := _) (v := _) rfl (by kernel_rfl) (by kernel_rfl) (by kernel_rfl) (fun _ _ _ h => h) (yieldsIf_load_mid (by rfl) 61 _ rfl gx 0 rfl X _ (fun w' h => range_ext RX6.out h lx6) Tryd.underlying61 rfl (by rw [HX.out]; kernel_rfl)) hHeld ?_
  (try simp only [Act.put, List.setIfInBounds_toArray, List.set_cons_zero, List.set_cons_succ])
  refine wpAnyH_take (i := 1) (oi := _) (v := _) rfl (by kernel_rfl) (by kernel_rfl) (by kernel_rfl) (fun _ _ _ h => h) (yieldsIf_load_mid (by rfl) 42 _ rfl g 0 rfl C _ (fun w' h => range_ext RG6.out h lg6) Tryd.underlying42 rfl (by rw [HL.out]; kernel_rfl)) hHeld ?_
  (try simp only [Act.put, List.setIfInBounds_toArray, List.set_cons_zero, List.set_cons_succ])
  refine wpAnyH_ready (rs := [2]) (by kernel_rfl) (by simp) ?_
  refine AllReadyH.cons (o := _) rfl (fun K hK => ?_) AllReadyH.nil
  go_simp
  refine (toWorld_in d C _ (WorldD.inExt SI.out (he.next hHeld)) hf).mono ?_
  rintro e w7 ⟨Y, rfl, i7, h1⟩
  (try go_wp2_with fail)
  refine hK.out _ _ (hHeld.next h1) (fun hH2 => ?_)
  clear hK K
  (try simp only [Act.put, List.setIfInBounds_toArray, List.set_cons_zero, List.set_cons_succ])
  refine wpAnyH_ready (rs := [3]) (by kernel_rfl) (by simp) ?_
  refine AllReadyH.cons (o := _) rfl (fun K hK => ?_) AllReadyH.nil
  go_simp
  refine (eqWorld_in d X Y _ (WorldD.inAny (WorldD.inExt i6 hH2)) (WorldD.inAny i7) hf).mono ?_
  rintro e w8 ⟨rfl, h2⟩
  (try go_wp2_with fail)
  refine hK.out _ _ (hH2.next h2) (fun hH3 => ?_)
  clear hK K
  (try simp only [Act.put, List.setIfInBounds_toArray, List.set_cons_zero, List.set_cons_succ])
  refine wpAnyH_ready (rs := [4]) (by kernel_rfl) (by simp) ?_
  refine AllReadyH.cons (o := _) rfl (fun K hK => ?_) AllReadyH.nil
  go_simp
  refine hK.out _ _ hH3 (fun hH4 => ?_)
  clear hK K
  (try simp only [Act.put, List.setIfInBounds_toArray, List.set_cons_zero, List.set_cons_succ])
  refine wpAnyH_done (by kernel_rfl) ?_ _
  go_wp2_with fail
  go_ret
  exact ⟨rfl, he.next hH4⟩
theorem tab_laid {W : World} (hL : laidMetH Tryd.prog Rows.fnExactShowWorldRow.laid W) : Tab W := by
  rw [MakeChecks.laidMetH_plain _ _ _ (by kernel_rfl)] at hL
  have h3 := hL.tail.tail
  exact Lib.tabIs_of_head (g := 0) (t := 164) (e := 157) (n := 20) (by kernel_rfl) (by kernel_rfl) (by kernel_rfl) (by kernel_rfl) (by kernel_rfl) (by kernel_rfl) h3
theorem door_met (os : Os) (args : Array Value) : laidMetH Tryd.prog Rows.fnExactShowWorldRow.laid ((World.doorLaid Tryd.prog 24 os).forCall (fun _ _ => 0) ⟨#[], args, []⟩).memory :=
  laidMetH_of_parts3 (fuel := 8) (laidMet_of_run' 8 (by kernel_rfl) (by kernel_rfl)) (by kernel_rfl) (by kernel_rfl)
set_option maxRecDepth 100000 in
theorem ShowWorld_row : Rows.FnExactShowWorldSaid :=
  OpenClaim.holds_of_wide 3 Tryd.f3 rfl rfl rfl rfl rfl rfl rfl ⟨rfl, rfl, rfl, rfl, rfl⟩ rfl rfl rfl rfl rfl (by kernel_rfl) Tryd.func3 (by kernel_rfl)
    (of_decide_eq_true (by kernel_rfl)) (by unfold Func.isWrapper; first | (rw [if_pos (by decide +kernel)]; kernel_rfl) | (rw [if_neg (by decide +kernel)]; exact ⟨rfl, rfl⟩))
    (fun os started H enc _ => lawLiftedL (s := Rows.fnExactShowWorldSpec) (C := Tryd.checked) (tb := 4) Rows.fnExactShowWorldRow.laid own laidOut started (by kernel_rfl) Tryd.func3 (by kernel_rfl) rfl rfl Tryd.underlying4
      (fun ds h => by match ds, h with | [d0], _ => rfl)
      (ChangeSpec.witness_shaped (enc := enc) (C := Tryd.checked) (os := os) (X := fun w _ => laidMetH Tryd.prog Rows.fnExactShowWorldRow.laid w) false (World.doorLaid Tryd.prog 24 os) #[.agg #[.int .i64 0, .slice none 0 0, .slice none 0 0, .slice none 0 0, .int .i64 0, .slice none 0 0, .int .i64 0, .slice none 0 0, .int .i64 0, .int .i64 0, .string ⟨#[]⟩, .int .i64 0, .string ⟨#[]⟩, .slice none 0 0, .slice none 0 0, .slice none 0 0, .slice none 0 0]] 8 rfl (World.shaped_of_RefB (by kernel_rfl) (by kernel_rfl)) (by kernel_rfl) (by kernel_rfl) (by kernel_rfl) (door_met os _))
      (fun W args h hL => by
        have hs := h.size
        obtain ⟨l⟩ := args
        match l, hs with
        | [v0], _ =>
          obtain ⟨base0, n0, o0, t0⟩ := h.arg 0 42 v0 rfl rfl
          obtain ⟨cs0, rfl, _⟩ := okWide_struct Tryd.underlying42 o0
          obtain ⟨d, hI, hok⟩ := WorldD.typed t0
          have hI2 := hI
          obtain ⟨A0, c0, A1, c1, A2, c2, A3, c3, A4, c4, A5, c5, A6, c6, A7, c7, A8, c8, e1, _⟩ := hI2
          obtain rfl : cs0 = #[.int .i64 d.broker.width, .slice A0 d.broker.log.entries.length c0, .slice A1 d.broker.receipts.length c1, .slice A2 d.broker.heads.length c2, .int .i64 d.broker.sealed.leaves.size, .slice A3 d.broker.sealed.leaves.peaks.length c3, .int .i64 d.broker.sealed.taken.size, .slice A4 d.broker.sealed.taken.peaks.length c4, .int .i64 d.broker.sealed.head.number, .int .i64 d.broker.sealed.head.size, .string d.broker.sealed.head.root, .int .i64 d.broker.sealed.head.taken, .string d.broker.sealed.head.takenRoot, .slice A5 d.disk.files.length c5, .slice A6 d.clients.length c6, .slice A7 d.given.length c7, .slice A8 d.items.length c8] := by have h2 : cs0.toList = [.int .i64 d.broker.width, .slice A0 d.broker.log.entries.length c0, .slice A1 d.broker.receipts.length c1, .slice A2 d.broker.heads.length c2, .int .i64 d.broker.sealed.leaves.size, .slice A3 d.broker.sealed.leaves.peaks.length c3, .int .i64 d.broker.sealed.taken.size, .slice A4 d.broker.sealed.taken.peaks.length c4, .int .i64 d.broker.sealed.head.number, .int .i64 d.broker.sealed.head.size, .string d.broker.sealed.head.root, .int .i64 d.broker.sealed.head.taken, .string d.broker.sealed.head.takenRoot, .slice A5 d.disk.files.length c5, .slice A6 d.clients.length c6, .slice A7 d.given.length c7, .slice A8 d.items.length c8] := e1; rw [← h2]
          exact lawShowWorld_walk d A0 c0 A1 c1 A2 c2 A3 c3 A4 c4 A5 c5 A6 c6 A7 c7 A8 c8 W hok hI (tab_laid hL)))
theorem ShowWorld_holds : Rows.FnExactShowWorldCardSaid :=
  Claim7.holds_tied_plain_at .later [] [.data, .data, .data] true (true, "ea4a4aeea861c910cc626ea72ba8a110640bf96146e595729abe7fcdf7c8e0cc") false
    ShowWorld_row (fun _ h => by cases h) (by kernel_rfl) (fun _ h => by cases h) fnExactShowWorld_row_tie rfl ⟨rfl, rfl⟩ (by kernel_rfl) rfl
    (fun f fn hf hfn => by
      obtain rfl : f = 3 := Option.some.inj ((show Tryd.prog.funcNamed "loop.example/g00074/laws.FnExactShowWorld" = some 3 by kernel_rfl).symm.trans hf) |>.symm
      obtain rfl : fn = Tryd.f3 := (Option.some.inj (Tryd.func3.symm.trans hfn)).symm
      exact ⟨by kernel_rfl, fun j t ht => by
        have hm : t ∈ [42] := by simpa using Array.mem_of_getElem? ht
        have hall : ([42].all fun u => !Tryd.prog.wantsStandIn u) = true := by kernel_rfl
        exact (show Tryd.prog.wantsStandIn t = false by simpa using List.all_eq_true.1 hall t hm)⟩)
    (by kernel_rfl)
#print axioms ShowWorld_holds
end Go.Proofs.YtichegndafnjeaaDoor

/-
  The program's SameStory returns what the reference's returns, for all arguments. Written by program (gen_law2.py). No condition.
-/
import Derived.Test.YtcpfgldcijkhlaaRows
import Derived.Test.YtcpfgldcijkhlaaFacts
import Derived.Test.YtcpfgldcijkhlaaNDark
import Derived.Test.YtcpfgldcijkhlaaStory
namespace Go.Proofs.Ytcpfgldcijkhlaa
open Go.RowKit Go.WideShapes Go.ChangeAt
set_option linter.unusedVariables false

set_option maxHeartbeats 4000000 in
set_option maxRecDepth 100000 in
theorem lawSameStory_walk (d : DarkD) (p : Int) (q : Int) (A0 : Option Addr) (c0 : Nat) (A1 : Option Addr) (c1 : Nat) (A2 : Option Addr) (c2 : Nat) (A3 : Option Addr) (c3 : Nat) (A4 : Option Addr) (c4 : Nat) (A5 : Option Addr) (c5 : Nat) (w : World) (hok : d.Ok) (s0 : SlN AnyB ClientD.In 8 w A0 d.clients c0) (s1 : SlN AnyB ScannerD.In 10 w A1 d.scanners c1) (s2 : SlF AnyB GivenD.cells 7 w A2 d.given c2) (s3 : SlF AnyB GivenD.cells 7 w A3 d.scanned c3) (s4 : SlN AnyB ItemD.In 22 w A4 d.items c4) (s5 : SlF AnyB MeetingD.cells 4 w A5 d.met c5)  :
    Calls Try.prog 12 #[.agg #[.slice A0 d.clients.length c0, .slice A1 d.scanners.length c1, .slice A2 d.given.length c2, .slice A3 d.scanned.length c3, .slice A4 d.items.length c4, .slice A5 d.met.length c5], .int .i64 p, .int .i64 q] w fun e w' => e = .returned (.bool true) ∧ Ext w w' := by
  have S0 := Lib.hid s0; clear s0
  have S1 := Lib.hid s1; clear s1
  have S2 := Lib.hid s2; clear s2
  have S3 := Lib.hid s3; clear s3
  have S4 := Lib.hid s4; clear s4
  have S5 := Lib.hid s5; clear s5
  have Hok := Lib.hid hok; clear hok
  have K0 := Blk.new w 117 #[.slice A0 d.clients.length c0, .slice A1 d.scanners.length c1, .slice A2 d.given.length c2, .slice A3 d.scanned.length c3, .slice A4 d.items.length c4, .slice A5 d.met.length c5]
  have he := Ext.new (Below.refl w.heap.size w) (.cells #[.slice A0 d.clients.length c0, .slice A1 d.scanners.length c1, .slice A2 d.given.length c2, .slice A3 d.scanned.length c3, .slice A4 d.items.length c4, .slice A5 d.met.length c5] 117)
  have RG := Lib.hid K0.range
  by_cases cz : szL d.lens 1048576 < 0
  · go_enter Try.func12, Try.ntmps12
    go_wp2_with (refine wpList_load_mid rfl 117 _ rfl w.heap.size 0 rfl [.slice A0 d.clients.length c0, .slice A1 d.scanners.length c1, .slice A2 d.given.length c2, .slice A3 d.scanned.length c3, .slice A4 d.items.length c4, .slice A5 d.met.length c5] _ RG.out Try.underlying117 rfl (by kernel_rfl) ?_)
    obtain ⟨g, hg⟩ : ∃ g, g = w.heap.size := ⟨_, rfl⟩
    rw [← hg] at K0
    rw [← hg]
    clear hg RG
    refine (szDark_any d A0 c0 A1 c1 A2 c2 A3 c3 A4 c4 A5 c5 _ _ Hok.out (SlN.ext ClientD.steady S0.out he) (SlN.ext ScannerD.steady S1.out he) (S2.out.ext he) (S3.out.ext he) (SlN.ext ItemD.steady S4.out he) (S5.out.ext he) (by decide) (by decide)).mono ?_
    rintro e w1 ⟨rfl, h1⟩
    replace K0 := K0.ext h1; replace he := he.next h1; clear h1
    go_wp2_with fail
    go_ret
    exact ⟨rfl, he⟩
  have hf := szL_fit (by decide) (by decide) cz
  have SP : Hid (∀ (Q0 : Option Addr) (q0 : Nat) (Q1 : Option Addr) (q1 : Nat) (Q2 : Option Addr) (q2 : Nat) (Q3 : Option Addr) (q3 : Nat) (Q4 : Option Addr) (q4 : Nat) (Q5 : Option Addr) (q5 : Nat) (w : World) (t0 : SlN AnyB ClientD.In 8 w Q0 d.clients q0) (t1 : SlN AnyB ScannerD.In 10 w Q1 d.scanners q1) (t2 : SlF AnyB GivenD.cells 7 w Q2 d.given q2) (t3 : SlF AnyB GivenD.cells 7 w Q3 d.scanned q3) (t4 : SlN AnyB ItemD.In 22 w Q4 d.items q4) (t5 : SlF AnyB MeetingD.cells 4 w Q5 d.met q5), Calls Try.prog 66 #[.agg #[.slice Q0 d.clients.length q0, .slice Q1 d.scanners.length q1, .slice Q2 d.given.length q2, .slice Q3 d.scanned.length q3, .slice Q4 d.items.length q4, .slice Q5 d.met.length q5], .int .i64 p, .int .i64 q] w fun e w' => e = .returned (.bool (sameStory d p q)) ∧ Ext w w') := Lib.hid (fun Q0 q0 Q1 q1 Q2 q2 Q3 q3 Q4 q4 Q5 q5 w t0 t1 t2 t3 t4 t5 => specSameStory_any d p q Q0 q0 Q1 q1 Q2 q2 Q3 q3 Q4 q4 Q5 q5 _ Hok.out t0 t1 t2 t3 t4 t5 hf)
  have IM : Hid (∀ (Q0 : Option Addr) (q0 : Nat) (Q1 : Option Addr) (q1 : Nat) (Q2 : Option Addr) (q2 : Nat) (Q3 : Option Addr) (q3 : Nat) (Q4 : Option Addr) (q4 : Nat) (Q5 : Option Addr) (q5 : Nat) (w : World) (t0 : SlN AnyB ClientD.In 8 w Q0 d.clients q0) (t1 : SlN AnyB ScannerD.In 10 w Q1 d.scanners q1) (t2 : SlF AnyB GivenD.cells 7 w Q2 d.given q2) (t3 : SlF AnyB GivenD.cells 7 w Q3 d.scanned q3) (t4 : SlN AnyB ItemD.In 22 w Q4 d.items q4) (t5 : SlF AnyB MeetingD.cells 4 w Q5 d.met q5), Calls Try.prog 68 #[.agg #[.slice Q0 d.clients.length q0, .slice Q1 d.scanners.length q1, .slice Q2 d.given.length q2, .slice Q3 d.scanned.length q3, .slice Q4 d.items.length q4, .slice Q5 d.met.length q5], .int .i64 p, .int .i64 q] w fun e w' => e = .returned (.bool (sameStory d p q)) ∧ Ext w w') := Lib.hid (fun Q0 q0 Q1 q1 Q2 q2 Q3 q3 Q4 q4 Q5 q5 w t0 t1 t2 t3 t4 t5 => implSameStory_any d p q Q0 q0 Q1 q1 Q2 q2 Q3 q3 Q4 q4 Q5 q5 _ Hok.out t0 t1 t2 t3 t4 t5 hf)
  generalize sameStory d p q = r0 at SP IM
  have ne0 : (r0 != r0) = false := by simp
  go_enter Try.func12, Try.ntmps12
  go_wp2_with (refine wpList_load_mid rfl 117 _ rfl w.heap.size 0 rfl [.slice A0 d.clients.length c0, .slice A1 d.scanners.length c1, .slice A2 d.given.length c2, .slice A3 d.scanned.length c3, .slice A4 d.items.length c4, .slice A5 d.met.length c5] _ RG.out Try.underlying117 rfl (by kernel_rfl) ?_)
  obtain ⟨g, hg⟩ : ∃ g, g = w.heap.size := ⟨_, rfl⟩
  rw [← hg] at K0
  rw [← hg]
  clear hg RG
  refine (szDark_any d A0 c0 A1 c1 A2 c2 A3 c3 A4 c4 A5 c5 _ _ Hok.out (SlN.ext ClientD.steady S0.out he) (SlN.ext ScannerD.steady S1.out he) (S2.out.ext he) (S3.out.ext he) (SlN.ext ItemD.steady S4.out he) (S5.out.ext he) (by decide) (by decide)).mono ?_
  rintro e w1 ⟨rfl, h1⟩
  replace K0 := K0.ext h1; replace he := he.next h1; clear h1
  have RG := Lib.hid K0.range
  go_wp2_with (refine wpList_load_mid rfl 117 _ rfl g 0 rfl [.slice A0 d.clients.length c0, .slice A1 d.scanners.length c1, .slice A2 d.given.length c2, .slice A3 d.scanned.length c3, .slice A4 d.items.length c4, .slice A5 d.met.length c5] _ RG.out Try.underlying117 rfl (by kernel_rfl) ?_)
  refine (toDark_any d A0 c0 A1 c1 A2 c2 A3 c3 A4 c4 A5 c5 _ (SlN.ext ClientD.steady S0.out he) (SlN.ext ScannerD.steady S1.out he) (S2.out.ext he) (S3.out.ext he) (SlN.ext ItemD.steady S4.out he) (S5.out.ext he) hf).mono ?_
  rintro e w2 ⟨cs, rfl, ⟨G0, D0, G1, D1, G2, D2, G3, D3, G4, D4, G5, D5, rfl, t0, t1, t2, t3, t4, t5⟩, h1⟩
  replace K0 := K0.ext h1; replace he := he.next h1; clear h1 RG
  go_wp2_with fail
  refine (SP.out G0 D0 G1 D1 G2 D2 G3 D3 G4 D4 G5 D5 _ (SlN.any ClientD.steady t0) (SlN.any ScannerD.steady t1) t2.any t3.any (SlN.any ItemD.steady t4) t5.any).mono ?_
  rintro e w3 ⟨rfl, h1⟩
  replace K0 := K0.ext h1; replace he := he.next h1; clear h1 SP t0 t1 t2 t3 t4 t5
  have RG := Lib.hid K0.range
  go_wp2_with (refine wpList_load_mid rfl 117 _ rfl g 0 rfl [.slice A0 d.clients.length c0, .slice A1 d.scanners.length c1, .slice A2 d.given.length c2, .slice A3 d.scanned.length c3, .slice A4 d.items.length c4, .slice A5 d.met.length c5] _ RG.out Try.underlying117 rfl (by kernel_rfl) ?_)
  refine (toDark_any d A0 c0 A1 c1 A2 c2 A3 c3 A4 c4 A5 c5 _ (SlN.ext ClientD.steady S0.out he) (SlN.ext ScannerD.steady S1.out he) (S2.out.ext he) (S3.out.ext he) (SlN.ext ItemD.steady S4.out he) (S5.out.ext he) hf).mono ?_
  rintro e w4 ⟨cs, rfl, ⟨U0, V0, U1, V1, U2, V2, U3, V3, U4, V4, U5, V5, rfl, t0, t1, t2, t3, t4, t5⟩, h1⟩
  replace K0 := K0.ext h1; replace he := he.next h1; clear h1 RG
  have E45 := Lib.hid (Ext.new (Below.refl w4.heap.size w4) (.cells #[.slice U0 d.clients.length V0, .slice U1 d.scanners.length V1, .slice U2 d.given.length V2, .slice U3 d.scanned.length V3, .slice U4 d.items.length V4, .slice U5 d.met.length V5] 125))
  have bx := Lib.hid (Blk.new w4 125 #[.slice U0 d.clients.length V0, .slice U1 d.scanners.length V1, .slice U2 d.given.length V2, .slice U3 d.scanned.length V3, .slice U4 d.items.length V4, .slice U5 d.met.length V5])
  go_wp2_with (refine wpList_load_mid rfl 125 _ rfl w4.heap.size 0 rfl [.slice U0 d.clients.length V0, .slice U1 d.scanners.length V1, .slice U2 d.given.length V2, .slice U3 d.scanned.length V3, .slice U4 d.items.length V4, .slice U5 d.met.length V5] _ (Blk.range bx.out) Try.underlying125 rfl (by kernel_rfl) ?_)
  generalize w4.alloc (.cells #[.slice U0 d.clients.length V0, .slice U1 d.scanners.length V1, .slice U2 d.given.length V2, .slice U3 d.scanned.length V3, .slice U4 d.items.length V4, .slice U5 d.met.length V5] 125) = w5 at E45 bx ⊢
  replace E45 := E45.out; replace bx := bx.out; replace K0 := K0.ext E45; replace he := he.next E45
  replace t0 := (SlN.ext ClientD.steady t0 E45)
  replace t1 := (SlN.ext ScannerD.steady t1 E45)
  replace t2 := (t2.ext E45)
  replace t3 := (t3.ext E45)
  replace t4 := (SlN.ext ItemD.steady t4 E45)
  replace t5 := (t5.ext E45)
  obtain ⟨gx, hgx⟩ : ∃ gx, gx = w4.heap.size := ⟨_, rfl⟩
  rw [← hgx] at bx
  rw [← hgx]
  clear hgx E45
  refine (IM.out U0 V0 U1 V1 U2 V2 U3 V3 U4 V4 U5 V5 _ (SlN.any ClientD.steady t0) (SlN.any ScannerD.steady t1) t2.any t3.any (SlN.any ItemD.steady t4) t5.any).mono ?_
  rintro e w6 ⟨rfl, h1⟩
  replace K0 := K0.ext h1; replace he := he.next h1; replace bx := bx.ext h1
  replace t0 := (SlN.ext ClientD.steady t0 h1)
  replace t1 := (SlN.ext ScannerD.steady t1 h1)
  replace t2 := (t2.ext h1)
  replace t3 := (t3.ext h1)
  replace t4 := (SlN.ext ItemD.steady t4 h1)
  replace t5 := (t5.ext h1)
  clear h1 IM
  have RG := Lib.hid K0.range; have RX := Lib.hid bx.range; have lg := K0.lt; have lx := bx.lt
  clear K0 bx
  go_wp2_with fail
  refine wp_region_held_drew (S := fun w' => Ext w6 w') (by kernel_rfl) ⟨rfl, rfl, rfl, Nat.le_refl _, fun _ _ => rfl⟩ (fun hHeld => ?_)
  refine wpAnyH_take (i := 0) (oi := _) (v := _) rfl (by kernel_rfl) (by kernel_rfl) (by kernel_rfl) (fun _ _ _ h => h) (yieldsIf_load_mid (by rfl) 125 _ rfl gx 0 rfl [.slice U0 d.clients.length V0, .slice U1 d.scanners.length V1, .slice U2 d.given.length V2, .slice U3 d.scanned.length V3, .slice U4 d.items.length V4, .slice U5 d.met.length V5] _ (fun w' h => range_ext RX.out h lx) Try.underlying125 rfl (by kernel_rfl)) hHeld ?_
  (try simp only [Act.put, List.setIfInBounds_toArray, List.set_cons_zero, List.set_cons_succ])
  refine wpAnyH_take (i := 1) (oi := _) (v := _) rfl (by kernel_rfl) (by kernel_rfl) (by kernel_rfl) (fun _ _ _ h => h) (yieldsIf_load_mid (by rfl) 117 _ rfl g 0 rfl [.slice A0 d.clients.length c0, .slice A1 d.scanners.length c1, .slice A2 d.given.length c2, .slice A3 d.scanned.length c3, .slice A4 d.items.length c4, .slice A5 d.met.length c5] _ (fun w' h => range_ext RG.out h lg) Try.underlying117 rfl (by kernel_rfl)) hHeld ?_
  (try simp only [Act.put, List.setIfInBounds_toArray, List.set_cons_zero, List.set_cons_succ])
  refine wpAnyH_ready (rs := [2]) (by kernel_rfl) (by simp) ?_
  refine AllReadyH.cons (o := _) rfl (fun K hK => ?_) AllReadyH.nil
  go_simp
  refine (toDark_any d A0 c0 A1 c1 A2 c2 A3 c3 A4 c4 A5 c5 _ (SlN.ext ClientD.steady S0.out (he.next hHeld)) (SlN.ext ScannerD.steady S1.out (he.next hHeld)) (S2.out.ext (he.next hHeld)) (S3.out.ext (he.next hHeld)) (SlN.ext ItemD.steady S4.out (he.next hHeld)) (S5.out.ext (he.next hHeld)) hf).mono ?_
  rintro e w7 ⟨cs, rfl, ⟨M0, N0, M1, N1, M2, N2, M3, N3, M4, N4, M5, N5, rfl, z0, z1, z2, z3, z4, z5⟩, h1⟩
  (try go_wp2_with fail)
  refine hK.out _ _ (hHeld.next h1) (fun hH2 => ?_)
  clear hK K
  (try simp only [Act.put, List.setIfInBounds_toArray, List.set_cons_zero, List.set_cons_succ])
  refine wpAnyH_ready (rs := [3]) (by kernel_rfl) (by simp) ?_
  refine AllReadyH.cons (o := _) rfl (fun K hK => ?_) AllReadyH.nil
  go_simp
  refine (eqDark_same d U0 V0 U1 V1 U2 V2 U3 V3 U4 V4 U5 V5 M0 N0 M1 N1 M2 N2 M3 N3 M4 N4 M5 N5 _ (SlN.any ClientD.steady (SlN.ext ClientD.steady t0 hH2)) (SlN.any ScannerD.steady (SlN.ext ScannerD.steady t1 hH2)) (t2.ext hH2).any (t3.ext hH2).any (SlN.any ItemD.steady (SlN.ext ItemD.steady t4 hH2)) (t5.ext hH2).any (SlN.any ClientD.steady z0) (SlN.any ScannerD.steady z1) z2.any z3.any (SlN.any ItemD.steady z4) z5.any hf).mono ?_
  rintro e w8 ⟨rfl, h2⟩
  (try go_wp2_with fail)
  refine hK.out _ _ (hH2.next h2) (fun hH3 => ?_)
  clear hK K
  (try simp only [Act.put, List.setIfInBounds_toArray, List.set_cons_zero, List.set_cons_succ])
  refine wpAnyH_ready (rs := [4]) (by kernel_rfl) (by simp) ?_
  refine AllReadyH.cons (o := _) rfl (fun K hK => ?_) AllReadyH.nil
  go_simp
  refine hK.out _ _ hH3 (fun hH4 => ?_)
  clear hK K
  (try simp only [Act.put, List.setIfInBounds_toArray, List.set_cons_zero, List.set_cons_succ])
  refine wpAnyH_done (by kernel_rfl) ?_ _
  go_wp2_with fail
  go_ret
  exact ⟨rfl, he.next hH4⟩

set_option maxRecDepth 100000 in
theorem SameStory_holds : Rows.FnExactSameStorySaid :=
  lawOver (p := Try.pinned) (c := Rows.fnExactSameStoryRow) (s := Rows.fnExactSameStorySpec) 12 Try.f12 4
    own laidOut (by kernel_rfl) (by kernel_rfl) rfl rfl Try.underlying4
    (fun H ds h => by match ds, h with | [d0, d1, d2], _ => rfl)
    rfl rfl rfl rfl rfl rfl rfl ⟨rfl, rfl, rfl, rfl, rfl⟩ rfl rfl rfl rfl rfl (by kernel_rfl) Try.func12 (by kernel_rfl)
    (of_decide_eq_true (by kernel_rfl)) (by unfold Func.isWrapper; rw [if_neg (of_decide_eq_false (by kernel_rfl))]; exact ⟨rfl, rfl⟩)
    rfl rfl (fun _ _ => rfl) rfl rfl rfl rfl
    (fun os started H enc => ChangeSpec.witness6 (enc := enc) (C := Try.checked) false ⟨#[], #[.agg #[.slice none 0 0, .slice none 0 0, .slice none 0 0, .slice none 0 0, .slice none 0 0, .slice none 0 0], .int .i64 0, .int .i64 0], []⟩ 20 (by kernel_rfl) (by kernel_rfl) (by kernel_rfl) (by kernel_rfl))
    (fun W args h => by
      have hs := h.size
      obtain ⟨l⟩ := args
      match l, hs with
      | [v0, v1, v2], _ =>
        obtain ⟨base0, n0, o0, t0⟩ := h.arg 0 117 v0 rfl rfl
        obtain ⟨base1, n1, o1, t1⟩ := h.arg 1 3 v1 rfl rfl
        obtain ⟨base2, n2, o2, t2⟩ := h.arg 2 3 v2 rfl rfl
        obtain ⟨cs0, rfl, _⟩ := okWide_struct Try.underlying117 o0
        obtain ⟨d, ⟨A0, c0, A1, c1, A2, c2, A3, c3, A4, c4, A5, c5, e0, s0, s1, s2, s3, s4, s5⟩, hok⟩ := DarkD.typed t0
        obtain rfl : cs0 = #[.slice A0 d.clients.length c0, .slice A1 d.scanners.length c1, .slice A2 d.given.length c2, .slice A3 d.scanned.length c3, .slice A4 d.items.length c4, .slice A5 d.met.length c5] := by have h2 : cs0.toList = [.slice A0 d.clients.length c0, .slice A1 d.scanners.length c1, .slice A2 d.given.length c2, .slice A3 d.scanned.length c3, .slice A4 d.items.length c4, .slice A5 d.met.length c5] := e0; rw [← Array.toList_inj, h2]
        obtain ⟨p, rfl⟩ := okWide_int Try.underlying3 o1
        obtain ⟨q, rfl⟩ := okWide_int Try.underlying3 o2
        exact lawSameStory_walk d p q A0 c0 A1 c1 A2 c2 A3 c3 A4 c4 A5 c5 W hok s0 s1 s2 s3 s4 s5 )
#print axioms SameStory_holds
end Go.Proofs.Ytcpfgldcijkhlaa

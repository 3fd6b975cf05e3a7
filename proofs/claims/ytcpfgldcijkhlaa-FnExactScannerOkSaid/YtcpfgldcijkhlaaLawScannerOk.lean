/-
  The program's ScannerOk returns what the reference's returns, for all arguments. Written by program (gen_law2.py). No condition.
-/
import Derived.Test.YtcpfgldcijkhlaaRows
import Derived.Test.YtcpfgldcijkhlaaFacts
import Derived.Test.YtcpfgldcijkhlaaNScanner
import Derived.Test.YtcpfgldcijkhlaaScnOps
namespace Go.Proofs.Ytcpfgldcijkhlaa
open Go.RowKit Go.WideShapes Go.ChangeAt
set_option linter.unusedVariables false

set_option maxHeartbeats 4000000 in
set_option maxRecDepth 100000 in
theorem lawScannerOk_walk (d : ScannerD) (A0 : Option Addr) (c0 : Nat) (A1 : Option Addr) (c1 : Nat) (w : World) (hok : d.Ok) (s0 : SlF AnyB CursorD.cells 3 w A0 d.client.cursors c0) (s1 : SlF AnyB CursorD.cells 3 w A1 d.topics c1)  :
    Calls Try.prog 10 #[.agg #[.int .i64 d.client.width, .string d.client.name, .int .i64 d.client.head.number, .int .i64 d.client.head.size, .string d.client.head.root, .int .i64 d.client.head.taken, .string d.client.head.takenRoot, .slice A0 d.client.cursors.length c0, .int .i64 d.leaf, .slice A1 d.topics.length c1]] w fun e w' => e = .returned (.bool true) ∧ Ext w w' := by
  have S0 := Lib.hid s0; clear s0
  have S1 := Lib.hid s1; clear s1
  have Hok := Lib.hid hok; clear hok
  have K0 := Blk.new w 95 #[.int .i64 d.client.width, .string d.client.name, .int .i64 d.client.head.number, .int .i64 d.client.head.size, .string d.client.head.root, .int .i64 d.client.head.taken, .string d.client.head.takenRoot, .slice A0 d.client.cursors.length c0, .int .i64 d.leaf, .slice A1 d.topics.length c1]
  have he := Ext.new (Below.refl w.heap.size w) (.cells #[.int .i64 d.client.width, .string d.client.name, .int .i64 d.client.head.number, .int .i64 d.client.head.size, .string d.client.head.root, .int .i64 d.client.head.taken, .string d.client.head.takenRoot, .slice A0 d.client.cursors.length c0, .int .i64 d.leaf, .slice A1 d.topics.length c1] 95)
  have RG := Lib.hid K0.range
  by_cases cz : szL d.lens 1048576 < 0
  · go_enter Try.func10, Try.ntmps10
    go_wp2_with (refine wpList_load_mid rfl 95 _ rfl w.heap.size 0 rfl [.int .i64 d.client.width, .string d.client.name, .int .i64 d.client.head.number, .int .i64 d.client.head.size, .string d.client.head.root, .int .i64 d.client.head.taken, .string d.client.head.takenRoot, .slice A0 d.client.cursors.length c0, .int .i64 d.leaf, .slice A1 d.topics.length c1] _ RG.out Try.underlying95 rfl (by kernel_rfl) ?_)
    obtain ⟨g, hg⟩ : ∃ g, g = w.heap.size := ⟨_, rfl⟩
    rw [← hg] at K0
    rw [← hg]
    clear hg RG
    refine (szScanner_any d A0 c0 A1 c1 _ _ Hok.out (S0.out.ext he) (S1.out.ext he) (by decide) (by decide)).mono ?_
    rintro e w1 ⟨rfl, h1⟩
    replace K0 := K0.ext h1; replace he := he.next h1; clear h1
    go_wp2_with fail
    go_ret
    exact ⟨rfl, he⟩
  have hf := szL_fit (by decide) (by decide) cz
  have SP : Hid (∀ (Q0 : Option Addr) (q0 : Nat) (Q1 : Option Addr) (q1 : Nat) (w : World) (t0 : SlF AnyB CursorD.cells 3 w Q0 d.client.cursors q0) (t1 : SlF AnyB CursorD.cells 3 w Q1 d.topics q1), Calls Try.prog 54 #[.agg #[.int .i64 d.client.width, .string d.client.name, .int .i64 d.client.head.number, .int .i64 d.client.head.size, .string d.client.head.root, .int .i64 d.client.head.taken, .string d.client.head.takenRoot, .slice Q0 d.client.cursors.length q0, .int .i64 d.leaf, .slice Q1 d.topics.length q1]] w fun e w' => e = .returned (.bool (scannerOk d)) ∧ Ext w w') := Lib.hid (fun Q0 q0 Q1 q1 w t0 t1 => specScannerOk_any d Q0 q0 Q1 q1 _ Hok.out t0 t1 hf)
  have IM : Hid (∀ (Q0 : Option Addr) (q0 : Nat) (Q1 : Option Addr) (q1 : Nat) (w : World) (t0 : SlF AnyB CursorD.cells 3 w Q0 d.client.cursors q0) (t1 : SlF AnyB CursorD.cells 3 w Q1 d.topics q1), Calls Try.prog 56 #[.agg #[.int .i64 d.client.width, .string d.client.name, .int .i64 d.client.head.number, .int .i64 d.client.head.size, .string d.client.head.root, .int .i64 d.client.head.taken, .string d.client.head.takenRoot, .slice Q0 d.client.cursors.length q0, .int .i64 d.leaf, .slice Q1 d.topics.length q1]] w fun e w' => e = .returned (.bool (scannerOk d)) ∧ Ext w w') := Lib.hid (fun Q0 q0 Q1 q1 w t0 t1 => implScannerOk_any d Q0 q0 Q1 q1 _ Hok.out t0 t1 hf)
  generalize scannerOk d = r0 at SP IM
  have ne0 : (r0 != r0) = false := by simp
  go_enter Try.func10, Try.ntmps10
  go_wp2_with (refine wpList_load_mid rfl 95 _ rfl w.heap.size 0 rfl [.int .i64 d.client.width, .string d.client.name, .int .i64 d.client.head.number, .int .i64 d.client.head.size, .string d.client.head.root, .int .i64 d.client.head.taken, .string d.client.head.takenRoot, .slice A0 d.client.cursors.length c0, .int .i64 d.leaf, .slice A1 d.topics.length c1] _ RG.out Try.underlying95 rfl (by kernel_rfl) ?_)
  obtain ⟨g, hg⟩ : ∃ g, g = w.heap.size := ⟨_, rfl⟩
  rw [← hg] at K0
  rw [← hg]
  clear hg RG
  refine (szScanner_any d A0 c0 A1 c1 _ _ Hok.out (S0.out.ext he) (S1.out.ext he) (by decide) (by decide)).mono ?_
  rintro e w1 ⟨rfl, h1⟩
  replace K0 := K0.ext h1; replace he := he.next h1; clear h1
  have RG := Lib.hid K0.range
  go_wp2_with (refine wpList_load_mid rfl 95 _ rfl g 0 rfl [.int .i64 d.client.width, .string d.client.name, .int .i64 d.client.head.number, .int .i64 d.client.head.size, .string d.client.head.root, .int .i64 d.client.head.taken, .string d.client.head.takenRoot, .slice A0 d.client.cursors.length c0, .int .i64 d.leaf, .slice A1 d.topics.length c1] _ RG.out Try.underlying95 rfl (by kernel_rfl) ?_)
  refine (toScanner_any d A0 c0 A1 c1 _ (S0.out.ext he) (S1.out.ext he) hf).mono ?_
  rintro e w2 ⟨cs, rfl, ⟨G0, D0, G1, D1, rfl, t0, t1⟩, h1⟩
  replace K0 := K0.ext h1; replace he := he.next h1; clear h1 RG
  go_wp2_with fail
  refine (SP.out G0 D0 G1 D1 _ t0.any t1.any).mono ?_
  rintro e w3 ⟨rfl, h1⟩
  replace K0 := K0.ext h1; replace he := he.next h1; clear h1 SP t0 t1
  have RG := Lib.hid K0.range
  go_wp2_with (refine wpList_load_mid rfl 95 _ rfl g 0 rfl [.int .i64 d.client.width, .string d.client.name, .int .i64 d.client.head.number, .int .i64 d.client.head.size, .string d.client.head.root, .int .i64 d.client.head.taken, .string d.client.head.takenRoot, .slice A0 d.client.cursors.length c0, .int .i64 d.leaf, .slice A1 d.topics.length c1] _ RG.out Try.underlying95 rfl (by kernel_rfl) ?_)
  refine (toScanner_any d A0 c0 A1 c1 _ (S0.out.ext he) (S1.out.ext he) hf).mono ?_
  rintro e w4 ⟨cs, rfl, ⟨U0, V0, U1, V1, rfl, t0, t1⟩, h1⟩
  replace K0 := K0.ext h1; replace he := he.next h1; clear h1 RG
  have E45 := Lib.hid (Ext.new (Below.refl w4.heap.size w4) (.cells #[.int .i64 d.client.width, .string d.client.name, .int .i64 d.client.head.number, .int .i64 d.client.head.size, .string d.client.head.root, .int .i64 d.client.head.taken, .string d.client.head.takenRoot, .slice U0 d.client.cursors.length V0, .int .i64 d.leaf, .slice U1 d.topics.length V1] 99))
  have bx := Lib.hid (Blk.new w4 99 #[.int .i64 d.client.width, .string d.client.name, .int .i64 d.client.head.number, .int .i64 d.client.head.size, .string d.client.head.root, .int .i64 d.client.head.taken, .string d.client.head.takenRoot, .slice U0 d.client.cursors.length V0, .int .i64 d.leaf, .slice U1 d.topics.length V1])
  go_wp2_with (refine wpList_load_mid rfl 99 _ rfl w4.heap.size 0 rfl [.int .i64 d.client.width, .string d.client.name, .int .i64 d.client.head.number, .int .i64 d.client.head.size, .string d.client.head.root, .int .i64 d.client.head.taken, .string d.client.head.takenRoot, .slice U0 d.client.cursors.length V0, .int .i64 d.leaf, .slice U1 d.topics.length V1] _ (Blk.range bx.out) Try.underlying99 rfl (by kernel_rfl) ?_)
  generalize w4.alloc (.cells #[.int .i64 d.client.width, .string d.client.name, .int .i64 d.client.head.number, .int .i64 d.client.head.size, .string d.client.head.root, .int .i64 d.client.head.taken, .string d.client.head.takenRoot, .slice U0 d.client.cursors.length V0, .int .i64 d.leaf, .slice U1 d.topics.length V1] 99) = w5 at E45 bx ⊢
  replace E45 := E45.out; replace bx := bx.out; replace K0 := K0.ext E45; replace he := he.next E45
  replace t0 := (t0.ext E45)
  replace t1 := (t1.ext E45)
  obtain ⟨gx, hgx⟩ : ∃ gx, gx = w4.heap.size := ⟨_, rfl⟩
  rw [← hgx] at bx
  rw [← hgx]
  clear hgx E45
  refine (IM.out U0 V0 U1 V1 _ t0.any t1.any).mono ?_
  rintro e w6 ⟨rfl, h1⟩
  replace K0 := K0.ext h1; replace he := he.next h1; replace bx := bx.ext h1
  replace t0 := (t0.ext h1)
  replace t1 := (t1.ext h1)
  clear h1 IM
  have RG := Lib.hid K0.range; have RX := Lib.hid bx.range; have lg := K0.lt; have lx := bx.lt
  clear K0 bx
  go_wp2_with fail
  refine wp_region_held_drew (S := fun w' => Ext w6 w') (by kernel_rfl) ⟨rfl, rfl, rfl, Nat.le_refl _, fun _ _ => rfl⟩ (fun hHeld => ?_)
  refine wpAnyH_take (i := 0) (oi := _) (v := _) rfl (by kernel_rfl) (by kernel_rfl) (by kernel_rfl) (fun _ _ _ h => h) (yieldsIf_load_mid (by rfl) 99 _ rfl gx 0 rfl [.int .i64 d.client.width, .string d.client.name, .int .i64 d.client.head.number, .int .i64 d.client.head.size, .string d.client.head.root, .int .i64 d.client.head.taken, .string d.client.head.takenRoot, .slice U0 d.client.cursors.length V0, .int .i64 d.leaf, .slice U1 d.topics.length V1] _ (fun w' h => range_ext RX.out h lx) Try.underlying99 rfl (by kernel_rfl)) hHeld ?_
  (try simp only [Act.put, List.setIfInBounds_toArray, List.set_cons_zero, List.set_cons_succ])
  refine wpAnyH_take (i := 1) (oi := _) (v := _) rfl (by kernel_rfl) (by kernel_rfl) (by kernel_rfl) (fun _ _ _ h => h) (yieldsIf_load_mid (by rfl) 95 _ rfl g 0 rfl [.int .i64 d.client.width, .string d.client.name, .int .i64 d.client.head.number, .int .i64 d.client.head.size, .string d.client.head.root, .int .i64 d.client.head.taken, .string d.client.head.takenRoot, .slice A0 d.client.cursors.length c0, .int .i64 d.leaf, .slice A1 d.topics.length c1] _ (fun w' h => range_ext RG.out h lg) Try.underlying95 rfl (by kernel_rfl)) hHeld ?_
  (try simp only [Act.put, List.setIfInBounds_toArray, List.set_cons_zero, List.set_cons_succ])
  refine wpAnyH_ready (rs := [2]) (by kernel_rfl) (by simp) ?_
  refine AllReadyH.cons (o := _) rfl (fun K hK => ?_) AllReadyH.nil
  go_simp
  refine (toScanner_any d A0 c0 A1 c1 _ (S0.out.ext (he.next hHeld)) (S1.out.ext (he.next hHeld)) hf).mono ?_
  rintro e w7 ⟨cs, rfl, ⟨M0, N0, M1, N1, rfl, z0, z1⟩, h1⟩
  (try go_wp2_with fail)
  refine hK.out _ _ (hHeld.next h1) (fun hH2 => ?_)
  clear hK K
  (try simp only [Act.put, List.setIfInBounds_toArray, List.set_cons_zero, List.set_cons_succ])
  refine wpAnyH_ready (rs := [3]) (by kernel_rfl) (by simp) ?_
  refine AllReadyH.cons (o := _) rfl (fun K hK => ?_) AllReadyH.nil
  go_simp
  refine (eqScanner_same d U0 V0 U1 V1 M0 N0 M1 N1 _ (t0.ext hH2).any (t1.ext hH2).any z0.any z1.any hf).mono ?_
  rintro e w8 ⟨rfl, h2⟩
  (try go_wp2_with fail)
  refine hK.out _ _ (hH2.next h2) (fun hH3 => ?_)
  clear hK K
  (try simp only [Act.put, List.setIfInBounds_toArray, List.set_cons_zero, List.set_cons_succ])
  refine wpAnyH_ready (rs := [4]) (by kernel_rfl) (by simp) ?_
  refine AllReadyH.cons (o := _) rfl (fun K hK => ?_) AllReadyH.nil
  go_simp
  refine hK.out _ _ hH3 (fun hH4 => ?_)
  clear hK K
  (try simp only [Act.put, List.setIfInBounds_toArray, List.set_cons_zero, List.set_cons_succ])
  refine wpAnyH_done (by kernel_rfl) ?_ _
  go_wp2_with fail
  go_ret
  exact ⟨rfl, he.next hH4⟩

set_option maxRecDepth 100000 in
theorem ScannerOk_holds : Rows.FnExactScannerOkSaid :=
  lawOver (p := Try.pinned) (c := Rows.fnExactScannerOkRow) (s := Rows.fnExactScannerOkSpec) 10 Try.f10 4
    own laidOut (by kernel_rfl) (by kernel_rfl) rfl rfl Try.underlying4
    (fun H ds h => by match ds, h with | [d0], _ => rfl)
    rfl rfl rfl rfl rfl rfl rfl ⟨rfl, rfl, rfl, rfl, rfl⟩ rfl rfl rfl rfl rfl (by kernel_rfl) Try.func10 (by kernel_rfl)
    (of_decide_eq_true (by kernel_rfl)) (by unfold Func.isWrapper; rw [if_neg (of_decide_eq_false (by kernel_rfl))]; exact ⟨rfl, rfl⟩)
    rfl rfl (fun _ _ => rfl) rfl rfl rfl rfl
    (fun os started H enc => ChangeSpec.witness6 (enc := enc) (C := Try.checked) false ⟨#[], #[.agg #[.int .i64 0, .string ⟨#[]⟩, .int .i64 0, .int .i64 0, .string ⟨#[]⟩, .int .i64 0, .string ⟨#[]⟩, .slice none 0 0, .int .i64 0, .slice none 0 0]], []⟩ 20 (by kernel_rfl) (by kernel_rfl) (by kernel_rfl) (by kernel_rfl))
    (fun W args h => by
      have hs := h.size
      obtain ⟨l⟩ := args
      match l, hs with
      | [v0], _ =>
        obtain ⟨base0, n0, o0, t0⟩ := h.arg 0 95 v0 rfl rfl
        obtain ⟨cs0, rfl, _⟩ := okWide_struct Try.underlying95 o0
        obtain ⟨d, ⟨A0, c0, A1, c1, e0, s0, s1⟩, hok⟩ := ScannerD.typed t0
        obtain rfl : cs0 = #[.int .i64 d.client.width, .string d.client.name, .int .i64 d.client.head.number, .int .i64 d.client.head.size, .string d.client.head.root, .int .i64 d.client.head.taken, .string d.client.head.takenRoot, .slice A0 d.client.cursors.length c0, .int .i64 d.leaf, .slice A1 d.topics.length c1] := by have h2 : cs0.toList = [.int .i64 d.client.width, .string d.client.name, .int .i64 d.client.head.number, .int .i64 d.client.head.size, .string d.client.head.root, .int .i64 d.client.head.taken, .string d.client.head.takenRoot, .slice A0 d.client.cursors.length c0, .int .i64 d.leaf, .slice A1 d.topics.length c1] := e0; rw [← Array.toList_inj, h2]
        exact lawScannerOk_walk d A0 c0 A1 c1 W hok s0 s1 )
#print axioms ScannerOk_holds
end Go.Proofs.Ytcpfgldcijkhlaa

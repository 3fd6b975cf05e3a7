/-
  The program's CursorOf returns what the reference's returns, for all arguments. Written by program (gen_law2.py). No condition.
-/
import Derived.Test.YtcpfgldcijkhlaaRows
import Derived.Test.YtcpfgldcijkhlaaFacts
import Derived.Test.YtcpfgldcijkhlaaNClient
import Derived.Test.YtcpfgldcijkhlaaCurOf
namespace Go.Proofs.Ytcpfgldcijkhlaa
open Go.RowKit Go.WideShapes Go.ChangeAt
set_option linter.unusedVariables false

set_option maxHeartbeats 4000000 in
set_option maxRecDepth 100000 in
theorem lawCursorOf_walk (d : ClientD) (t : ByteArray) (A0 : Option Addr) (c0 : Nat) (w : World) (hok : d.Ok) (s0 : SlF AnyB CursorD.cells 3 w A0 d.cursors c0) (hs_t : t.size ≤ maxLen) :
    Calls Try.prog 4 #[.agg #[.int .i64 d.width, .string d.name, .int .i64 d.head.number, .int .i64 d.head.size, .string d.head.root, .int .i64 d.head.taken, .string d.head.takenRoot, .slice A0 d.cursors.length c0], .string t] w fun e w' => e = .returned (.bool true) ∧ Ext w w' := by
  have S0 := Lib.hid s0; clear s0
  have Hok := Lib.hid hok; clear hok
  unfold maxLen at hs_t
  by_cases z_t : 1048576 < t.size
  · go_enter Try.func4, Try.ntmps4
    go_wp2_with fail
    go_ret
    exact ⟨rfl, by go_grown⟩
  have K0 := Blk.new w 42 #[.int .i64 d.width, .string d.name, .int .i64 d.head.number, .int .i64 d.head.size, .string d.head.root, .int .i64 d.head.taken, .string d.head.takenRoot, .slice A0 d.cursors.length c0]
  have he := Ext.new (Below.refl w.heap.size w) (.cells #[.int .i64 d.width, .string d.name, .int .i64 d.head.number, .int .i64 d.head.size, .string d.head.root, .int .i64 d.head.taken, .string d.head.takenRoot, .slice A0 d.cursors.length c0] 42)
  have RG := Lib.hid K0.range
  by_cases cz : szL d.lens 1048576 < 0
  · go_enter Try.func4, Try.ntmps4
    go_wp2_with (refine wpList_load_mid rfl 42 _ rfl w.heap.size 0 rfl [.int .i64 d.width, .string d.name, .int .i64 d.head.number, .int .i64 d.head.size, .string d.head.root, .int .i64 d.head.taken, .string d.head.takenRoot, .slice A0 d.cursors.length c0] _ RG.out Try.underlying42 rfl (by kernel_rfl) ?_)
    obtain ⟨g, hg⟩ : ∃ g, g = w.heap.size := ⟨_, rfl⟩
    rw [← hg] at K0
    rw [← hg]
    clear hg RG
    refine (szClient_any d A0 c0 _ _ Hok.out (S0.out.ext he) (by decide) (by decide)).mono ?_
    rintro e w1 ⟨rfl, h1⟩
    replace K0 := K0.ext h1; replace he := he.next h1; clear h1
    go_wp2_with fail
    go_ret
    exact ⟨rfl, he⟩
  have hf := szL_fit (by decide) (by decide) cz
  have hl : d.cursors.length ≤ 1048576 := hf _ (by simp [ClientD.lens])
  have SP : Hid (∀ (Q0 : Option Addr) (q0 : Nat) (w : World) (t0 : SlF AnyB CursorD.cells 3 w Q0 d.cursors q0), Calls Try.prog 20 #[.agg #[.int .i64 d.width, .string d.name, .int .i64 d.head.number, .int .i64 d.head.size, .string d.head.root, .int .i64 d.head.taken, .string d.head.takenRoot, .slice Q0 d.cursors.length q0], .string t] w fun e w' => e = .returned (.tuple #[.int .i64 (curNext d.cursors t), .int .i64 (curLast d.cursors t)]) ∧ Ext w w') := Lib.hid (fun Q0 q0 w t0 => specCursorOf_any d Q0 q0 t _ t0 hl)
  have IM : Hid (∀ (Q0 : Option Addr) (q0 : Nat) (w : World) (t0 : SlF AnyB CursorD.cells 3 w Q0 d.cursors q0), Calls Try.prog 22 #[.agg #[.int .i64 d.width, .string d.name, .int .i64 d.head.number, .int .i64 d.head.size, .string d.head.root, .int .i64 d.head.taken, .string d.head.takenRoot, .slice Q0 d.cursors.length q0], .string t] w fun e w' => e = .returned (.tuple #[.int .i64 (curNext d.cursors t), .int .i64 (curLast d.cursors t)]) ∧ Ext w w') := Lib.hid (fun Q0 q0 w t0 => implCursorOf_any d Q0 q0 t _ t0 hl)
  generalize curNext d.cursors t = r0 at SP IM
  generalize curLast d.cursors t = r1 at SP IM
  go_enter Try.func4, Try.ntmps4
  go_wp2_with (refine wpList_load_mid rfl 42 _ rfl w.heap.size 0 rfl [.int .i64 d.width, .string d.name, .int .i64 d.head.number, .int .i64 d.head.size, .string d.head.root, .int .i64 d.head.taken, .string d.head.takenRoot, .slice A0 d.cursors.length c0] _ RG.out Try.underlying42 rfl (by kernel_rfl) ?_)
  obtain ⟨g, hg⟩ : ∃ g, g = w.heap.size := ⟨_, rfl⟩
  rw [← hg] at K0
  rw [← hg]
  clear hg RG
  refine (szClient_any d A0 c0 _ _ Hok.out (S0.out.ext he) (by decide) (by decide)).mono ?_
  rintro e w1 ⟨rfl, h1⟩
  replace K0 := K0.ext h1; replace he := he.next h1; clear h1
  have RG := Lib.hid K0.range
  go_wp2_with (refine wpList_load_mid rfl 42 _ rfl g 0 rfl [.int .i64 d.width, .string d.name, .int .i64 d.head.number, .int .i64 d.head.size, .string d.head.root, .int .i64 d.head.taken, .string d.head.takenRoot, .slice A0 d.cursors.length c0] _ RG.out Try.underlying42 rfl (by kernel_rfl) ?_)
  refine (toClient_any d A0 c0 _ (S0.out.ext he) hf).mono ?_
  rintro e w2 ⟨cs, rfl, ⟨G0, D0, rfl, t0⟩, h1⟩
  replace K0 := K0.ext h1; replace he := he.next h1; clear h1 RG
  go_wp2_with fail
  refine (SP.out G0 D0 _ t0.any).mono ?_
  rintro e w3 ⟨rfl, h1⟩
  replace K0 := K0.ext h1; replace he := he.next h1; clear h1 SP t0
  have RG := Lib.hid K0.range
  go_wp2_with (refine wpList_load_mid rfl 42 _ rfl g 0 rfl [.int .i64 d.width, .string d.name, .int .i64 d.head.number, .int .i64 d.head.size, .string d.head.root, .int .i64 d.head.taken, .string d.head.takenRoot, .slice A0 d.cursors.length c0] _ RG.out Try.underlying42 rfl (by kernel_rfl) ?_)
  refine (toClient_any d A0 c0 _ (S0.out.ext he) hf).mono ?_
  rintro e w4 ⟨cs, rfl, ⟨U0, V0, rfl, t0⟩, h1⟩
  replace K0 := K0.ext h1; replace he := he.next h1; clear h1 RG
  have E45 := Lib.hid (Ext.new (Below.refl w4.heap.size w4) (.cells #[.int .i64 d.width, .string d.name, .int .i64 d.head.number, .int .i64 d.head.size, .string d.head.root, .int .i64 d.head.taken, .string d.head.takenRoot, .slice U0 d.cursors.length V0] 49))
  have bx := Lib.hid (Blk.new w4 49 #[.int .i64 d.width, .string d.name, .int .i64 d.head.number, .int .i64 d.head.size, .string d.head.root, .int .i64 d.head.taken, .string d.head.takenRoot, .slice U0 d.cursors.length V0])
  go_wp2_with (refine wpList_load_mid rfl 49 _ rfl w4.heap.size 0 rfl [.int .i64 d.width, .string d.name, .int .i64 d.head.number, .int .i64 d.head.size, .string d.head.root, .int .i64 d.head.taken, .string d.head.takenRoot, .slice U0 d.cursors.length V0] _ (Blk.range bx.out) Try.underlying49 rfl (by kernel_rfl) ?_)
  generalize w4.alloc (.cells #[.int .i64 d.width, .string d.name, .int .i64 d.head.number, .int .i64 d.head.size, .string d.head.root, .int .i64 d.head.taken, .string d.head.takenRoot, .slice U0 d.cursors.length V0] 49) = w5 at E45 bx ⊢
  replace E45 := E45.out; replace bx := bx.out; replace K0 := K0.ext E45; replace he := he.next E45
  replace t0 := (t0.ext E45)
  obtain ⟨gx, hgx⟩ : ∃ gx, gx = w4.heap.size := ⟨_, rfl⟩
  rw [← hgx] at bx
  rw [← hgx]
  clear hgx E45
  refine (IM.out U0 V0 _ t0.any).mono ?_
  rintro e w6 ⟨rfl, h1⟩
  replace K0 := K0.ext h1; replace he := he.next h1; replace bx := bx.ext h1
  replace t0 := (t0.ext h1)
  clear h1 IM
  have RG := Lib.hid K0.range; have RX := Lib.hid bx.range; have lg := K0.lt; have lx := bx.lt
  clear K0 bx
  go_wp2_with fail
  refine wp_region_held_drew (S := fun w' => Ext w6 w') (by kernel_rfl) ⟨rfl, rfl, rfl, Nat.le_refl _, fun _ _ => rfl⟩ (fun hHeld => ?_)
  refine wpAnyH_take (i := 0) (oi := _) (v := _) rfl (by kernel_rfl) (by kernel_rfl) (by kernel_rfl) (fun _ _ _ h => h) (yieldsIf_load_mid (by rfl) 49 _ rfl gx 0 rfl [.int .i64 d.width, .string d.name, .int .i64 d.head.number, .int .i64 d.head.size, .string d.head.root, .int .i64 d.head.taken, .string d.head.takenRoot, .slice U0 d.cursors.length V0] _ (fun w' h => range_ext RX.out h lx) Try.underlying49 rfl (by kernel_rfl)) hHeld ?_
  (try simp only [Act.put, List.setIfInBounds_toArray, List.set_cons_zero, List.set_cons_succ])
  refine wpAnyH_take (i := 1) (oi := _) (v := _) rfl (by kernel_rfl) (by kernel_rfl) (by kernel_rfl) (fun _ _ _ h => h) (yieldsIf_load_mid (by rfl) 42 _ rfl g 0 rfl [.int .i64 d.width, .string d.name, .int .i64 d.head.number, .int .i64 d.head.size, .string d.head.root, .int .i64 d.head.taken, .string d.head.takenRoot, .slice A0 d.cursors.length c0] _ (fun w' h => range_ext RG.out h lg) Try.underlying42 rfl (by kernel_rfl)) hHeld ?_
  (try simp only [Act.put, List.setIfInBounds_toArray, List.set_cons_zero, List.set_cons_succ])
  refine wpAnyH_ready (rs := [2]) (by kernel_rfl) (by simp) ?_
  refine AllReadyH.cons (o := _) rfl (fun K hK => ?_) AllReadyH.nil
  go_simp
  refine (toClient_any d A0 c0 _ (S0.out.ext (he.next hHeld)) hf).mono ?_
  rintro e w7 ⟨cs, rfl, ⟨M0, N0, rfl, z0⟩, h1⟩
  (try go_wp2_with fail)
  refine hK.out _ _ (hHeld.next h1) (fun hH2 => ?_)
  clear hK K
  (try simp only [Act.put, List.setIfInBounds_toArray, List.set_cons_zero, List.set_cons_succ])
  refine wpAnyH_ready (rs := [3]) (by kernel_rfl) (by simp) ?_
  refine AllReadyH.cons (o := _) rfl (fun K hK => ?_) AllReadyH.nil
  go_simp
  refine (eqClient_same d U0 V0 M0 N0 _ (t0.ext hH2).any z0.any hf).mono ?_
  rintro e w8 ⟨rfl, h2⟩
  (try go_wp2_with fail)
  refine hK.out _ _ (hH2.next h2) (fun hH3 => ?_)
  clear hK K
  (try simp only [Act.put, List.setIfInBounds_toArray, List.set_cons_zero, List.set_cons_succ])
  refine wpAnyH_ready (rs := [4]) (by kernel_rfl) (by simp) ?_
  refine AllReadyH.cons (o := _) rfl (fun K hK => ?_) AllReadyH.nil
  go_simp
  refine hK.out _ _ hH3 (fun hH4 => ?_)
  clear hK K
  (try simp only [Act.put, List.setIfInBounds_toArray, List.set_cons_zero, List.set_cons_succ])
  refine wpAnyH_done (by kernel_rfl) ?_ _
  go_wp2_with fail
  go_ret
  exact ⟨rfl, he.next hH4⟩

set_option maxRecDepth 100000 in
theorem CursorOf_holds : Rows.FnExactCursorOfSaid :=
  lawOver (p := Try.pinned) (c := Rows.fnExactCursorOfRow) (s := Rows.fnExactCursorOfSpec) 4 Try.f4 4
    own laidOut (by kernel_rfl) (by kernel_rfl) rfl rfl Try.underlying4
    (fun H ds h => by match ds, h with | [d0, d1], _ => rfl)
    rfl rfl rfl rfl rfl rfl rfl ⟨rfl, rfl, rfl, rfl, rfl⟩ rfl rfl rfl rfl rfl (by kernel_rfl) Try.func4 (by kernel_rfl)
    (of_decide_eq_true (by kernel_rfl)) (by unfold Func.isWrapper; rw [if_neg (of_decide_eq_false (by kernel_rfl))]; exact ⟨rfl, rfl⟩)
    rfl rfl (fun _ _ => rfl) rfl rfl rfl rfl
    (fun os started H enc => ChangeSpec.witness6 (enc := enc) (C := Try.checked) false ⟨#[], #[.agg #[.int .i64 0, .string ⟨#[]⟩, .int .i64 0, .int .i64 0, .string ⟨#[]⟩, .int .i64 0, .string ⟨#[]⟩, .slice none 0 0], .string ⟨#[]⟩], []⟩ 20 (by kernel_rfl) (by kernel_rfl) (by kernel_rfl) (by kernel_rfl))
    (fun W args h => by
      have hs := h.size
      obtain ⟨l⟩ := args
      match l, hs with
      | [v0, v1], _ =>
        obtain ⟨base0, n0, o0, t0⟩ := h.arg 0 42 v0 rfl rfl
        obtain ⟨base1, n1, o1, t1⟩ := h.arg 1 9 v1 rfl rfl
        obtain ⟨cs0, rfl, _⟩ := okWide_struct Try.underlying42 o0
        obtain ⟨d, ⟨A0, c0, e0, s0⟩, hok⟩ := ClientD.typed t0
        obtain rfl : cs0 = #[.int .i64 d.width, .string d.name, .int .i64 d.head.number, .int .i64 d.head.size, .string d.head.root, .int .i64 d.head.taken, .string d.head.takenRoot, .slice A0 d.cursors.length c0] := by have h2 : cs0.toList = [.int .i64 d.width, .string d.name, .int .i64 d.head.number, .int .i64 d.head.size, .string d.head.root, .int .i64 d.head.taken, .string d.head.takenRoot, .slice A0 d.cursors.length c0] := e0; rw [← Array.toList_inj, h2]
        obtain ⟨t, rfl⟩ := okWide_string Try.underlying9 o1
        obtain ⟨u1, e1, ht⟩ := typed_string Try.underlying9 t1
        obtain rfl : t = u1 := by simpa [Value.cells] using e1
        exact lawCursorOf_walk d t A0 c0 W hok s0 ht)
#print axioms CursorOf_holds
end Go.Proofs.Ytcpfgldcijkhlaa

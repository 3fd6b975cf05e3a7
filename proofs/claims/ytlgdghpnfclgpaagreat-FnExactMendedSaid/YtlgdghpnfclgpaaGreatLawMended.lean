/-
  The program's Mended returns what the reference's returns, for all arguments. Written by program (gen_law2.py). No condition.
-/
import Derived.Test.YtlgdghpnfclgpaaGreatRows
import Derived.Test.YtlgdghpnfclgpaaGreatArgs
import Derived.Test.YtlgdghpnfclgpaaGreatName
import Derived.Test.YtlgdghpnfclgpaaGreatMendFx
namespace Go.Proofs.YtlgdghpnfclgpaaGreat
set_option linter.unusedSimpArgs false
open Go.RowKit Go.WideShapes Go.ChangeAt
set_option linter.unusedVariables false
set_option maxHeartbeats 4000000 in
set_option maxRecDepth 100000 in
theorem lawMended_walk (n : Int) (d : DiskD) (A0 : Option Addr) (c0 : Nat) (w : World) (hok : d.Ok) (s0 : SlF AnyB sone 1 w A0 d.files c0)  :
 Calls Tryz.prog 3 #[.int .i64 n, .agg #[.slice A0 d.files.length c0]] w fun e w' => e = .returned (.bool true) ∧ Ext w w' := by
 have S0 := Lib.hid s0; clear s0
 have Hok := Lib.hid hok; clear hok
 have K0 := Blk.new w 24 #[.slice A0 d.files.length c0]
 have he := Ext.new (Below.refl w.heap.size w) (.cells #[.slice A0 d.files.length c0] 24)
 have RG := Lib.hid K0.range
 by_cases cz : szL d.lens 1048576 < 0
 · go_enter Tryz.func3, Tryz.ntmps3
   go_wp2_with (refine wpList_load_mid rfl 24 _ rfl w.heap.size 0 rfl [.slice A0 d.files.length c0] _ RG.out Tryz.underlying24 rfl (by kernel_rfl) ?_)
   obtain ⟨g, hg⟩ : ∃ g, g = w.heap.size := ⟨_, rfl⟩
   rw [← hg] at K0
   rw [← hg]
   clear hg RG
   refine (szDisk_any d A0 c0 _ _ Hok.out (S0.out.ext he) (by decide) (by decide)).mono ?_
   rintro e w1 ⟨rfl, h1⟩
   replace K0 := K0.ext h1; replace he := he.next h1; clear h1
   go_wp2_with fail
   go_ret
   exact ⟨rfl, he⟩
 have hf := szL_fit (by decide) (by decide) cz
 have hl : d.files.length ≤ 1048576 := hf _ (by simp [DiskD.lens])
 have hsz := Lib.hid (show ∀ x ∈ d.files, x.size ≤ 1099511627776 from fun x hx => Nat.le_trans (hf _ (List.mem_append.2 (.inl (List.mem_cons_of_mem _ (List.mem_flatMap.2 ⟨x, hx, by simp [slens]⟩))))) (by decide))
 have SP : Hid (∀ (Q0 : Option Addr) (q0 : Nat) (w : World) (t0 : SlF AnyB sone 1 w Q0 d.files q0), Calls Tryz.prog 10 #[.int .i64 n, .agg #[.slice Q0 d.files.length q0]] w fun e w' => e = .returned (.bool (mendB n d.files)) ∧ Ext w w') := Lib.hid (fun Q0 q0 w t0 => specMended_any n Q0 q0 d.files _ t0.reads hl hsz.out)
 have IM : Hid (∀ (Q0 : Option Addr) (q0 : Nat) (w : World) (t0 : SlF AnyB sone 1 w Q0 d.files q0), Calls Tryz.prog 12 #[.int .i64 n, .agg #[.slice Q0 d.files.length q0]] w fun e w' => e = .returned (.bool (mendB n d.files)) ∧ Ext w w') := Lib.hid (fun Q0 q0 w t0 => implMended_any n Q0 q0 d.files _ t0.reads hl hsz.out)
 generalize mendB n d.files = r0 at SP IM
 have ne0 : (r0 != r0) = false := by simp
 go_enter Tryz.func3, Tryz.ntmps3
 go_wp2_with (refine wpList_load_mid rfl 24 _ rfl w.heap.size 0 rfl [.slice A0 d.files.length c0] _ RG.out Tryz.underlying24 rfl (by kernel_rfl) ?_)
 obtain ⟨g, hg⟩ : ∃ g, g = w.heap.size := ⟨_, rfl⟩
 rw [← hg] at K0
 rw [← hg]
 clear hg RG
 refine (szDisk_any d A0 c0 _ _ Hok.out (S0.out.ext he) (by decide) (by decide)).mono ?_
 rintro e w1 ⟨rfl, h1⟩
 replace K0 := K0.ext h1; replace he := he.next h1; clear h1
 have RG := Lib.hid K0.range
 go_wp2_with (refine wpList_load_mid rfl 24 _ rfl g 0 rfl [.slice A0 d.files.length c0] _ RG.out Tryz.underlying24 rfl (by kernel_rfl) ?_)
 refine (toDisk_any d A0 c0 _ (S0.out.ext he) hf).mono ?_
 rintro e w2 ⟨cs, rfl, ⟨G0, D0, rfl, t0⟩, h1⟩
 replace K0 := K0.ext h1; replace he := he.next h1; clear h1 RG
 go_wp2_with fail
 refine (SP.out G0 D0 _ t0.any).mono ?_
 rintro e w3 ⟨rfl, h1⟩
 replace K0 := K0.ext h1; replace he := he.next h1; clear h1 SP t0
 have RG := Lib.hid K0.range
 go_wp2_with (refine wpList_load_mid rfl 24 _ rfl g 0 rfl [.slice A0 d.files.length c0] _ RG.out Tryz.underlying24 rfl (by kernel_rfl) ?_)
 refine (toDisk_any d A0 c0 _ (S0.out.ext he) hf).mono ?_
 rintro e w4 ⟨cs, rfl, ⟨U0, V0, rfl, t0⟩, h1⟩
 replace K0 := K0.ext h1; replace he := he.next h1; clear h1 RG
 have E45 := Lib.hid (Ext.new (Below.refl w4.heap.size w4) (.cells #[.slice U0 d.files.length V0] 27))
 have bx := Lib.hid (Blk.new w4 27 #[.slice U0 d.files.length V0])
 go_wp2_with (refine wpList_load_mid rfl 27 _ rfl w4.heap.size 0 rfl [.slice U0 d.files.length V0] _ (Blk.range bx.out) Tryz.underlying27 rfl (by kernel_rfl) ?_)
 generalize w4.alloc (.cells #[.slice U0 d.files.length V0] 27) = w5 at E45 bx ⊢
 replace E45 := E45.out; replace bx := bx.out; replace K0 := K0.ext E45; replace he := he.next E45
 replace t0 := (t0.ext E45)
 obtain ⟨gx, hgx⟩ : ∃ gx, gx = w4.heap.size := ⟨_, rfl⟩
 rw [← hgx] at bx
 rw [← hgx]
 clear hgx E45
 refine (IM.out U0 V0 _ t0.any).mono ?_
 rintro e w6 ⟨rfl, h1⟩
 replace K0 := K0.ext h1; replace he := he.next h1; replace bx := bx.ext h1
 replace t0 := (t0.ext h1)
 clear h1 IM
 have RG := Lib.hid K0.range; have RX := Lib.hid bx.range; have lg := K0.lt; have lx := bx.lt
 clear K0 bx
 go_wp2_with fail
 refine wp_region_held_drew (S := fun w' => Ext w6 w') (by kernel_rfl) ⟨rfl, rfl, rfl, Nat.le_refl _, fun _ _ => rfl⟩ (fun hHeld => ?_)
 refine wpAnyH_take (i := 0) (oi := _) (v := _) rfl (by kernel_rfl) (by kernel_rfl) (by kernel_rfl) (fun _ _ _ h => h) (yieldsIf_load_mid (by rfl) 27 _ rfl gx 0 rfl [.slice U0 d.files.length V0] _ (fun w' h => range_ext RX.out h lx) Tryz.underlying27 rfl (by kernel_rfl)) hHeld ?_
 (try simp only [Act.put, List.setIfInBounds_toArray, List.set_cons_zero, List.set_cons_succ])
 refine wpAnyH_take (i := 1) (oi := _) (v := _) rfl (by kernel_rfl) (by kernel_rfl) (by kernel_rfl) (fun _ _ _ h => h) (yieldsIf_load_mid (by rfl) 24 _ rfl g 0 rfl [.slice A0 d.files.length c0] _ (fun w' h => range_ext RG.out h lg) Tryz.underlying24 rfl (by kernel_rfl)) hHeld ?_
 (try simp only [Act.put, List.setIfInBounds_toArray, List.set_cons_zero, List.set_cons_succ])
 refine wpAnyH_ready (rs := [2]) (by kernel_rfl) (by simp) ?_
 refine AllReadyH.cons (o := _) rfl (fun K hK => ?_) AllReadyH.nil
 go_simp
 refine (toDisk_any d A0 c0 _ (S0.out.ext (he.next hHeld)) hf).mono ?_
 rintro e w7 ⟨cs, rfl, ⟨M0, N0, rfl, z0⟩, h1⟩
 (try go_wp2_with fail)
 refine hK.out _ _ (hHeld.next h1) (fun hH2 => ?_)
 clear hK K
 (try simp only [Act.put, List.setIfInBounds_toArray, List.set_cons_zero, List.set_cons_succ])
 refine wpAnyH_ready (rs := [3]) (by kernel_rfl) (by simp) ?_
 refine AllReadyH.cons (o := _) rfl (fun K hK => ?_) AllReadyH.nil
 go_simp
 refine (eqDisk_same d U0 V0 M0 N0 _ (t0.ext hH2).any z0.any hf).mono ?_
 rintro e w8 ⟨rfl, h2⟩
 (try go_wp2_with fail)
 refine hK.out _ _ (hH2.next h2) (fun hH3 => ?_)
 clear hK K
 (try simp only [Act.put, List.setIfInBounds_toArray, List.set_cons_zero, List.set_cons_succ])
 refine wpAnyH_ready (rs := [4]) (by kernel_rfl) (by simp) ?_
 refine AllReadyH.cons (o := _) rfl (fun K hK => ?_) AllReadyH.nil
 go_simp
 refine hK.out _ _ hH3 (fun hH4 => ?_)
 clear hK K
 (try simp only [Act.put, List.setIfInBounds_toArray, List.set_cons_zero, List.set_cons_succ])
 refine wpAnyH_done (by kernel_rfl) ?_ _
 go_wp2_with fail
 go_ret
 exact ⟨rfl, he.next hH4⟩
set_option maxRecDepth 100000 in
theorem Mended_holds : Rows.FnExactMendedSaid :=
 lawOver (p := Tryz.pinned) (c := Rows.fnExactMendedRow) (s := Rows.fnExactMendedSpec) 3 Tryz.f3 4
  own laidOut (by kernel_rfl) (by kernel_rfl) rfl rfl Tryz.underlying4
  (fun H ds h => by match ds, h with | [d0, d1], _ => rfl)
  rfl rfl rfl rfl rfl rfl rfl ⟨rfl, rfl, rfl, rfl, rfl⟩ rfl rfl rfl rfl rfl (by kernel_rfl) Tryz.func3 mdFacts
  (of_decide_eq_true (by kernel_rfl)) (by unfold Func.isWrapper; rw [if_neg (of_decide_eq_false (by kernel_rfl))]; exact ⟨rfl, rfl⟩)
  rfl rfl (fun _ _ => rfl) rfl rfl rfl rfl
  (fun os started H enc => ChangeSpec.witness6 (enc := enc) (C := Tryz.checked) false ⟨#[], #[.int .i64 0, .agg #[.slice none 0 0]], []⟩ 20 (by kernel_rfl) (by kernel_rfl) (by kernel_rfl) (by kernel_rfl))
  (fun W args h => by
   have hs := h.size
   obtain ⟨l⟩ := args
   match l, hs with
   | [v0, v1], _ =>
     obtain ⟨base0, n0, o0, t0⟩ := h.arg 0 3 v0 rfl rfl
     obtain ⟨base1, n1, o1, t1⟩ := h.arg 1 24 v1 rfl rfl
     obtain ⟨n, rfl⟩ := okWide_int Tryz.underlying3 o0
     obtain ⟨cs1, rfl, _⟩ := okWide_struct Tryz.underlying24 o1
     obtain ⟨d, ⟨A0, c0, e1, s0⟩, hok⟩ := DiskD.typed t1
     obtain rfl : cs1 = #[.slice A0 d.files.length c0] := by have h2 : cs1.toList = [.slice A0 d.files.length c0] := e1; rw [← Array.toList_inj, h2]
     exact lawMended_walk n d A0 c0 W hok s0 )
#print axioms Mended_holds
end Go.Proofs.YtlgdghpnfclgpaaGreat

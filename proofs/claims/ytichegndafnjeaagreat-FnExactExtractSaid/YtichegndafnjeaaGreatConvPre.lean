/-
  Extract: walks. Written by program (gen_extract.py). No condition.
  The laws' own copying and comparing functions at Pre: walks. Written by program (gen_conv.py). No condition.
-/
import Derived.Test.YtichegndafnjeaaGreatExtImpl
import Derived.Test.YtichegndafnjeaaGreatMeetSpec
import Derived.Test.YtichegndafnjeaaGreatTypes
import Derived.StillTailTactics
namespace Go.Proofs.YtichegndafnjeaaGreat
open Go.RowKit
set_option linter.unusedVariables false

set_option maxHeartbeats 4000000 in
set_option maxRecDepth 100000 in
theorem specExtract_any (n : Int) (A : Option Addr) (c : Nat) (l : List ItemD) (w : World) (hr : SlN AnyB ItemD.In 22 w A l c) (hok : ∀ d ∈ l, d.Ok) (hl : l.length ≤ 1048576) (hf : ∀ x ∈ l, ∀ n ∈ x.lens, n ≤ 1048576) :
    Calls Tryz.prog 7 #[.int .i64 n, .slice A l.length c] w fun e w' => e = .returned (.tuple #[.agg #[.int .i64 (exA n l).tag, .string (exA n l).text], .agg #[.int .i64 (exB n l).tag, .string (exB n l).text], .bool (exOk n l)]) ∧ Ext w w' := by
  obtain ⟨i0, hi, hz0, hz1, hz2⟩ := info_parts info_pre
  have Hok := Lib.hid hok; have Hf := Lib.hid hf; have Hr := Lib.hid hr; clear hok hf hr
  have K0 := Lib.hid ((Blk.new w 25 #[.int .i64 0, .string ⟨#[]⟩]).alloc (.cells #[.int .i64 0, .string ⟨#[]⟩] 25))
  have k1 := Blk.new (w.alloc (.cells #[.int .i64 0, .string ⟨#[]⟩] 25)) 25 #[.int .i64 0, .string ⟨#[]⟩]
  simp only [World.size_alloc] at k1
  have K1 := Lib.hid k1
  clear k1
  have He := Lib.hid (Ext.new (Ext.new (Below.refl w.heap.size w) (.cells #[.int .i64 0, .string ⟨#[]⟩] 25)) (.cells #[.int .i64 0, .string ⟨#[]⟩] 25))
  by_cases b2 : 120 < l.length
  · have E1 := Lib.hid (show exA n l = pz by rw [exA, if_neg (by omega)])
    have E2 := Lib.hid (show exB n l = pz by rw [exB, if_neg (by omega)])
    have E3 := Lib.hid (show exOk n l = false by rw [exOk, if_neg (by omega)])
    rw [E1.out, E2.out, E3.out]
    go_enter Tryz.func7, Tryz.ntmps7
    go_wp2_with fail
    exact ret_rows_tmp rfl rfl rfl K0.out K1.out Tryz.underlying25 rfl (by kernel_rfl) (by kernel_rfl) rfl ⟨rfl, He.out⟩
  have b3 : l.length ≤ 120 := by omega
  have E1 := Lib.hid (show exA n l = meetA n (exL n l) by rw [exA, if_pos b3])
  have E2 := Lib.hid (show exB n l = meetB n (exL n l) by rw [exB, if_pos b3])
  have E3 := Lib.hid (show exOk n l = meetOk n (exL n l) by rw [exOk, if_pos b3])
  rw [E1.out, E2.out, E3.out]
  clear E1 E2 E3
  have SP := Lib.hid (fun A c w h => specMeet_any n A c (exL n l) w h (presUp_ok n l l.length) (by have := presUp_len n l l.length; show (presUp n l l.length).length ≤ 1048576; omega))
  generalize meetA n (exL n l) = X at *
  generalize meetB n (exL n l) = Y at *
  generalize meetOk n (exL n l) = ok at *
  have O0 := Lib.hid (ownsRow_empty ((w.alloc (.cells #[.int .i64 0, .string ⟨#[]⟩] 25)).alloc (.cells #[.int .i64 0, .string ⟨#[]⟩] 25)) 25 2)
  go_enter Tryz.func7, Tryz.ntmps7
  go_wp2_with fail
  obtain ⟨g, hg⟩ : ∃ g, g = w.heap.size := ⟨_, rfl⟩
  have hs2 : ((w.alloc (.cells #[.int .i64 0, .string ⟨#[]⟩] 25)).alloc (.cells #[.int .i64 0, .string ⟨#[]⟩] 25)).heap.size = g + 1 + 1 := by simp [hg]
  rw [hs2] at O0
  rw [← hg] at K0 K1
  try rw [← hg]
  have hg0 : w.heap.size ≤ g := by omega
  clear hg
  have O1 := Lib.hid (show ((w.alloc (.cells #[.int .i64 0, .string ⟨#[]⟩] 25)).alloc (.cells #[.int .i64 0, .string ⟨#[]⟩] 25)).heap.size = g + 1 + 1 from hs2)
  clear hs2
  generalize (w.alloc (.cells #[.int .i64 0, .string ⟨#[]⟩] 25)).alloc (.cells #[.int .i64 0, .string ⟨#[]⟩] 25) = wB at *
  have X0 := Lib.hid (Ext.new (Below.refl wB.heap.size wB) (.cells #[] 25))
  generalize wB.alloc (.cells #[] 25) = wC at *
  go_loopw [7, 8] (fun v x wr => ∃ (k : Nat), k ≤ l.length ∧ x = .int .i64 k ∧ OwnP wB wr v (presUp n l k) ∧ Ext wB wr) (fun _ x _ => l.length - (intOf x).toNat)
  case atStart => exact ⟨0, Nat.zero_le _, rfl, by rw [presUp_zero]; unfold OwnP OwnF; rw [O1.out]; exact O0.out, X0.out⟩
  case round =>
    clear O0 O1 X0
    obtain ⟨k, hk, rfl, hown, hx⟩ := hrel
    obtain ⟨V, cv, rfl, hnc⟩ := ownsRow_form hown
    have KO := Lib.hid hown; clear hown
    have hul := presUp_len n l k
    have he := He.out.next hx
    by_cases hlt : k < l.length
    case neg =>
      obtain rfl : k = l.length := by omega
      have hrd := Lib.hid (Reads.of_own KO.out)
      have K0' := Lib.hid (K0.out.ext hx); have K1' := Lib.hid (K1.out.ext hx)
      clear K0 K1 KO
      obtain ⟨L, hL⟩ : ∃ L, L = exL n l := ⟨_, rfl⟩
      have hL2 : presUp n l l.length = L := hL.symm
      rw [← hL] at SP
      rw [hL2] at hrd hul ⊢
      clear hL hL2
      have d1 : decide ((l.length : Int) < (l.length : Int)) = false := by simp
      go_wp2_with fail
      refine (SP.out _ _ _ hrd.out).mono ?_
      rintro e w9 ⟨rfl, h1⟩
      have K0 := K0'.out.ext h1; have K1 := K1'.out.ext h1
      replace he := he.next h1; clear h1 hx K0' K1' hrd SP
      obtain ⟨r0, m0⟩ := K0.rules
      obtain ⟨r1, m1⟩ := K1.rules
      go_wp2_with fail
      exact two_pre_ret hg0 K0 K1 he X Y ok rfl rfl rfl rfl rfl rfl
    clear SP
    obtain ⟨b, off, cs, rfl, hb, hcl, hR, hc⟩ := (SlN.ext ItemD.steady Hr.out he).at_ (k := k) hlt
    obtain ⟨d, hd⟩ : ∃ d, d = l[k] := ⟨_, rfl⟩
    have hdl : l[k]? = some d := by rw [hd]; exact List.getElem?_eq_getElem hlt
    rw [← hd] at hR
    have Y0 := Lib.hid (cells_range (n := 22) hcl hc)
    have HR := Lib.hid hR
    have HC := Lib.hid hcl
    have HN := Lib.hid (presUp_next (n := n) hdl)
    have Hdo := Lib.hid (Hok.out d (List.mem_of_getElem? hdl))
    have Hdf := Lib.hid (Hf.out d (List.mem_of_getElem? hdl))
    have hsm := (presOf_small n d).1
    clear hc hd hcl hR hdl
    have d1 : decide ((k : Int) < (l.length : Int)) = true := by rw [decide_eq_true_eq]; omega
    go_wp2_with (refine wpList_load_mid rfl 50 _ rfl b (off + k * 22) rfl cs _ Y0.out Tryz.underlying50 rfl (by rw [HC.out]; kernel_rfl) ?_)
    have KO2 := KO; have HR2 := HR
    clear KO HR Y0 he
    refine (specPresOf_in n d cs _ Hdo.out HR2.out Hdf.out).mono ?_
    rintro e w6 ⟨va, rfl, oa, h1⟩
    replace hx := hx.next h1
    have KO := Lib.hid (OwnF.ext KO2.out h1)
    have VO := Lib.hid oa
    clear h1 KO2 oa HR2
    generalize presUp n l k = u at *
    generalize presOf n d = us at *
    go_wp2_with (at_builtin; refine wpList_append_src rfl _ _ 43 rfl wB.heap.size 25 i0 (.agg #[.int .i64 0, .string ⟨#[]⟩]) 2 24 Tryz.underlying43 hi hz0 hz1 hz2 rfl (by decide) _ _ _ rfl KO.out _ _ _ rfl (srcL_own VO.out) ?c1 ?c2 ?c3 ?c4 ?_)
    case c1 => exact pre_cells _
    case c2 => unfold maxLen; omega
    case c3 => omega
    case c4 => exact hx.size
    intro v' wz hown' hgrow
    have hx2 := Ext.ownGrown hx KO.out hgrow (Nat.le_refl _)
    have KZ := Lib.hid (show OwnP wB wz v' (u ++ us) from by unfold OwnP OwnF; simpa using hown')
    clear hown' hgrow KO VO hx
    go_wp2_with fail
    go_roundw
    case rel => exact ⟨k + 1, by omega, by go_num, by rw [HN.out]; exact KZ.out, hx2⟩
    case measure => simp [intOf]; omega
end Go.Proofs.YtichegndafnjeaaGreat
namespace Go.Proofs.YtichegndafnjeaaGreat
open Go.RowKit
set_option linter.unusedVariables false

def PreD.lens (d : PreD) : List Nat := [d.text.size]
theorem eqPre_same (d : PreD) (w : World) :
    Calls Tryz.prog 10 #[.agg #[.int .i64 d.tag, .string d.text], .agg #[.int .i64 d.tag, .string d.text]] w fun e w' => e = .returned (.bool true) ∧ Ext w w' := by
  go_enter Tryz.func10, Tryz.ntmps10
  go_wp2
  go_ret
  exact ⟨rfl, by go_grown⟩
set_option maxHeartbeats 1000000 in
set_option maxRecDepth 100000 in
theorem eqPreS_same (A A' : Option Addr) (c c' : Nat) (l : List PreD) (w : World) (hr : ReadsL w w.heap.size PreD.cells 2 A l) (hr' : ReadsL w w.heap.size PreD.cells 2 A' l) (hl : l.length ≤ 1048576) :
    Calls Tryz.prog 16 #[.slice A l.length c, .slice A' l.length c'] w fun e w' => e = .returned (.bool true) ∧ Ext w w' := by
  go_enter Tryz.func16, Tryz.ntmps16
  go_wp2
  go_loopw [5] (fun i wr => ∃ (k : Nat), k ≤ l.length ∧ i = .int .i64 k ∧ Ext w wr) (fun i _ => l.length - (intOf i).toNat)
  case atStart => exact ⟨0, Nat.zero_le _, rfl, Below.refl _ _⟩
  case round =>
    obtain ⟨k, hk, rfl, he⟩ := hrel
    by_cases hlt : k < l.length
    · obtain ⟨b, off, rfl, hb, hc⟩ := (hr.below he).at_ (k := k) hlt
      obtain ⟨b', off', rfl, hb', hc'⟩ := (hr'.below he).at_ (k := k) hlt
      obtain ⟨d, hd⟩ : ∃ d, d = l[k] := ⟨_, rfl⟩
      have hdl : l[k]? = some d := by rw [hd]; exact List.getElem?_eq_getElem hlt
      have c0 := hc 0 _ (flat_at _ 2 PreD.cells_length l k 0 d hdl (by omega))
      have c1 := hc 1 _ (flat_at _ 2 PreD.cells_length l k 1 d hdl (by omega))
      have b0 := hc' 0 _ (flat_at _ 2 PreD.cells_length l k 0 d hdl (by omega))
      have b1 := hc' 1 _ (flat_at _ 2 PreD.cells_length l k 1 d hdl (by omega))
      rw [Nat.add_zero] at c0 b0
      clear hc hc' hd hdl
      go_wp2_with fail
      go_still_tail 8, (by kernel_rfl)
      change wpList _ _ _ _ _ wr.drew
      generalize hw : wr.drew = w2
      have he2 : Ext w w2 := by rw [← hw]; exact he.drew
      clear hw he
      go_wp2_with fail
      refine (eqPre_same d _).mono ?_
      rintro e w1 ⟨rfl, h1⟩
      replace he2 := he2.next h1; clear h1 c0 c1 b0 b1
      go_wp2_with fail
      go_roundw
      case rel => exact ⟨k + 1, by omega, by go_num, he2⟩
      case measure => simp [intOf]; omega
    · go_wp2_with fail
      go_ret
      exact ⟨rfl, he⟩
end Go.Proofs.YtichegndafnjeaaGreat

/-
  PresSpec; MeetSpec; ExtImpl: No condition.
-/
import Derived.Test.YtgeengkdgdjcjaaGreatItemIn
import Derived.Test.YtgeengkdgdjcjaaGreatPresImpl
import Derived.Test.YtgeengkdgdjcjaaGreatMeetImpl
namespace Go.Proofs.YtgeengkdgdjcjaaGreat
set_option linter.unusedSimpArgs false
open Go.RowKit
set_option linter.unusedVariables false


set_option maxHeartbeats 4000000
set_option maxRecDepth 100000
def exL (n : Int) (l : List ItemD) : List PreD := presUp n l l.length
def exA (n : Int) (l : List ItemD) : PreD := if l.length ≤ 120 then meetA n (exL n l) else pz
def exB (n : Int) (l : List ItemD) : PreD := if l.length ≤ 120 then meetB n (exL n l) else pz
def exOk (n : Int) (l : List ItemD) : Bool := if l.length ≤ 120 then meetOk n (exL n l) else false
theorem implPresOf_in (n : Int) (d : ItemD) (cs : List Value) (w : World) (hok : d.Ok) (h : ItemD.In AnyB w cs d) (hf : ∀ n ∈ d.lens, n ≤ 1048576) :
 Calls Tryz.prog 30 #[.int .i64 n, .agg cs.toArray] w fun e w' => ∃ v, e = .returned (.tuple #[v, .bool (itemOk n d)]) ∧ OwnP w w' v (presOf n d) ∧ Ext w w' := by
 obtain ⟨A0, c0, A1, c1, rfl, s0, s1⟩ := h
 exact implPresOf_any n d A0 c0 A1 c1 w hok s0 s1 hf
theorem implExtract_any (n : Int) (A : Option Addr) (c : Nat) (l : List ItemD) (w : World) (hr : SlN AnyB ItemD.In 22 w A l c) (hok : ∀ d ∈ l, d.Ok) (hl : l.length ≤ 1048576) (hf : ∀ x ∈ l, ∀ n ∈ x.lens, n ≤ 1048576) :
 Calls Tryz.prog 41 #[.int .i64 n, .slice A l.length c] w fun e w' => e = .returned (.tuple #[.agg #[.int .i64 (exA n l).tag, .string (exA n l).text], .agg #[.int .i64 (exB n l).tag, .string (exB n l).text], .bool (exOk n l)]) ∧ Ext w w' := by
 obtain ⟨i0, hi, hz0, hz1, hz2⟩ := info_parts info_pre
 have Hok := hU hok; have Hf := hU hf; have Hr := hU hr; clear hok hf hr
 have K0 := hU ((Blk.new w 88 #[.int .i64 0, .string ⟨#[]⟩]).alloc (.cells #[.int .i64 0, .string ⟨#[]⟩] 88))
 have k1 := Blk.new (w.alloc (.cells #[.int .i64 0, .string ⟨#[]⟩] 88)) 88 #[.int .i64 0, .string ⟨#[]⟩]
 simp only [World.size_alloc] at k1
 have K1 := hU k1
 clear k1
 have He := hU (Ext.new (Ext.new (Below.refl w.heap.size w) (.cells #[.int .i64 0, .string ⟨#[]⟩] 88)) (.cells #[.int .i64 0, .string ⟨#[]⟩] 88))
 by_cases b2 : 120 < l.length
 · have E1 := hU (show exA n l = pz by rw [exA, if_neg (by omega)])
   have E2 := hU (show exB n l = pz by rw [exB, if_neg (by omega)])
   have E3 := hU (show exOk n l = false by rw [exOk, if_neg (by omega)])
   rw [E1.out, E2.out, E3.out]
   go_enter Tryz.func41, Tryz.ntmps41
   go_wp2_with fail
   exact ret_rows_tmp rfl rfl rfl K0.out K1.out Tryz.underlying88 rfl (by kernel_rfl) (by kernel_rfl) rfl ⟨rfl, He.out⟩
 have b3 : l.length ≤ 120 := by omega
 have E1 := hU (show exA n l = meetA n (exL n l) by rw [exA, if_pos b3])
 have E2 := hU (show exB n l = meetB n (exL n l) by rw [exB, if_pos b3])
 have E3 := hU (show exOk n l = meetOk n (exL n l) by rw [exOk, if_pos b3])
 rw [E1.out, E2.out, E3.out]
 clear E1 E2 E3
 have SP := hU (fun A c w h => implMeet_any n A c (exL n l) w h (presUp_ok n l l.length) (by have := presUp_len n l l.length; show (presUp n l l.length).length ≤ 1048576; omega))
 generalize meetA n (exL n l) = X at *
 generalize meetB n (exL n l) = Y at *
 generalize meetOk n (exL n l) = ok at *
 go_enter Tryz.func41, Tryz.ntmps41
 go_wp2_with fail
 obtain ⟨g, hg⟩ : ∃ g, g = w.heap.size := ⟨_, rfl⟩
 rw [← hg] at K0 K1
 try rw [← hg]
 have hg0 : w.heap.size ≤ g := by omega
 clear hg
 generalize (w.alloc (.cells #[.int .i64 0, .string ⟨#[]⟩] 88)).alloc (.cells #[.int .i64 0, .string ⟨#[]⟩] 88) = wB at *
 go_loopw [7, 19] (fun v x wr => ∃ (k : Nat), k ≤ l.length ∧ x = .int .i64 k ∧ OwnP wB wr v (presUp n l k) ∧ Ext wB wr) (fun _ x _ => l.length - (intOf x).toNat)
 case atStart => exact ⟨0, Nat.zero_le _, rfl, by rw [presUp_zero]; exact World.ownsRow_nil _ _ _ _, Below.refl _ _⟩
 case round =>
  obtain ⟨k, hk, rfl, hown, hx⟩ := hrel
  obtain ⟨V, cv, rfl, hnc⟩ := ownsRow_form hown
  have KO := hU hown; clear hown
  have hul := presUp_len n l k
  have he := He.out.next hx
  by_cases hlt : k < l.length
  case neg =>
   obtain rfl : k = l.length := by omega
   have hrd := hU (Reads.of_own KO.out)
   have K0' := hU (K0.out.ext hx); have K1' := hU (K1.out.ext hx)
   clear K0 K1 KO
   obtain ⟨L, hL⟩ : ∃ L, L = exL n l := ⟨_, rfl⟩
   have hL2 : presUp n l l.length = L := hL.symm
   rw [← hL] at SP
   rw [hL2] at hrd hul ⊢
   clear hL hL2
   go_wp2_with fail
   refine (SP.out _ _ _ hrd.out).mono ?_
   rintro e w9 ⟨rfl, h1⟩
   have K0 := K0'.out.ext h1; have K1 := K1'.out.ext h1
   replace he := he.next h1; clear h1 hx K0' K1' hrd SP
   obtain ⟨r0, m0⟩ := K0.rules
   obtain ⟨r1, m1⟩ := K1.rules
   go_wp2_with fail
   exact two_pre_ret hg0 K0 K1 he X Y ok rfl rfl rfl rfl rfl rfl
  clear SP
  obtain ⟨b, off, cs, rfl, hb, hcl, hR, hc⟩ := (SlN.ext ItemD.steady Hr.out he).at_ (k := k) hlt
  obtain ⟨d, hd⟩ : ∃ d, d = l[k] := ⟨_, rfl⟩
  have hdl : l[k]? = some d := by rw [hd]; exact List.getElem?_eq_getElem hlt
  rw [← hd] at hR
  have Y0 := hU (cells_range (n := 22) hcl hc)
  have HR := hU hR
  have HC := hU hcl
  have HN := hU (presUp_next (n := n) hdl)
  have Hdo := hU (Hok.out d (List.mem_of_getElem? hdl))
  have Hdf := hU (Hf.out d (List.mem_of_getElem? hdl))
  have hsm := (presOf_small n d).1
  clear hc hd hcl hR hdl
  have bz := Blk.new wr 77 #[.int .i64 0, .int .i64 0, .int .i64 0, .string ⟨#[]⟩, .int .i64 0, .string ⟨#[]⟩, .int .i64 0, .int .i64 0, .string ⟨#[]⟩, .int .i64 0, .string ⟨#[]⟩, .int .i64 0, .string ⟨#[]⟩, .int .i64 0, .int .i64 0, .string ⟨#[]⟩, .string ⟨#[]⟩, .string ⟨#[]⟩, .string ⟨#[]⟩, .int .i64 0, .slice none 0 0, .slice none 0 0]
  have hx1 := hU (ItemD.one HR.out)
  have TH := hU (show (wr.alloc (.cells #[.int .i64 0, .int .i64 0, .int .i64 0, .string ⟨#[]⟩, .int .i64 0, .string ⟨#[]⟩, .int .i64 0, .int .i64 0, .string ⟨#[]⟩, .int .i64 0, .string ⟨#[]⟩, .int .i64 0, .string ⟨#[]⟩, .int .i64 0, .int .i64 0, .string ⟨#[]⟩, .string ⟨#[]⟩, .string ⟨#[]⟩, .string ⟨#[]⟩, .int .i64 0, .slice none 0 0, .slice none 0 0] 77)).there wr.heap.size 0 cs.length by rw [HC.out]; exact Blk.there bz 0 22 (by simp))
  have bx := hU (bz.put 0 cs cs.toArray (by simp [HC.out]) (by simp [HC.out]))
  clear bz
  have E45 := hU (ext_setCells (Nat.le_refl _) cs 0 _ (Ext.new (Below.refl wr.heap.size wr) (.cells #[.int .i64 0, .int .i64 0, .int .i64 0, .string ⟨#[]⟩, .int .i64 0, .string ⟨#[]⟩, .int .i64 0, .int .i64 0, .string ⟨#[]⟩, .int .i64 0, .string ⟨#[]⟩, .int .i64 0, .string ⟨#[]⟩, .int .i64 0, .int .i64 0, .string ⟨#[]⟩, .string ⟨#[]⟩, .string ⟨#[]⟩, .string ⟨#[]⟩, .int .i64 0, .slice none 0 0, .slice none 0 0] 77)))
  go_wp2_with (first | (refine wpList_store_list rfl 77 _ _ rfl rfl wr.heap.size 0 cs rfl rfl TH.out (by rw [HC.out]; kernel_rfl) hx1.out ?_; clear TH; generalize (wr.alloc (.cells #[.int .i64 0, .int .i64 0, .int .i64 0, .string ⟨#[]⟩, .int .i64 0, .string ⟨#[]⟩, .int .i64 0, .int .i64 0, .string ⟨#[]⟩, .int .i64 0, .string ⟨#[]⟩, .int .i64 0, .string ⟨#[]⟩, .int .i64 0, .int .i64 0, .string ⟨#[]⟩, .string ⟨#[]⟩, .string ⟨#[]⟩, .string ⟨#[]⟩, .int .i64 0, .slice none 0 0, .slice none 0 0] 77)).setCells wr.heap.size 0 cs = w5 at E45 bx ⊢) | (refine wpList_load_mid rfl 77 _ rfl wr.heap.size 0 rfl cs _ (Blk.range bx.out) Tryz.underlying77 rfl (by rw [HC.out]; kernel_rfl) ?_) | (refine wpList_load_mid rfl 77 _ rfl b (off + k * 22) rfl cs _ Y0.out Tryz.underlying77 rfl (by rw [HC.out]; kernel_rfl) ?_))
  replace hx := hx.next E45.out
  have KO2 := hU (OwnF.ext KO.out E45.out)
  have HR2 := hU (ItemD.inExt HR.out E45.out)
  clear KO HR E45 bx hx1 Y0 he
  refine (implPresOf_in n d cs _ Hdo.out HR2.out Hdf.out).mono ?_
  rintro e w6 ⟨va, rfl, oa, h1⟩
  replace hx := hx.next h1
  have KO := hU (OwnF.ext KO2.out h1)
  have VO := hU oa
  clear h1 KO2 oa HR2
  generalize presUp n l k = u at *
  generalize presOf n d = us at *
  go_wp2_with (at_builtin; refine wpList_append_src rfl _ _ 83 rfl wB.heap.size 88 i0 (.agg #[.int .i64 0, .string ⟨#[]⟩]) 2 24 Tryz.underlying83 hi hz0 hz1 hz2 rfl (by decide) _ _ _ rfl KO.out _ _ _ rfl (srcL_own VO.out) ?c1 ?c2 ?c3 ?c4 ?_)
  case c1 => exact pre_cells _
  case c2 => unfold maxLen; omega
  case c3 => omega
  case c4 => exact hx.size
  intro v' wz hown' hgrow
  have hx2 := Ext.ownGrown hx KO.out hgrow (Nat.le_refl _)
  have KZ := hU (show OwnP wB wz v' (u ++ us) from by unfold OwnP OwnF; simpa using hown')
  clear hown' hgrow KO VO hx
  go_wp2_with fail
  go_roundw
  case rel => exact ⟨k + 1, by omega, by go_num, by rw [HN.out]; exact KZ.out, hx2⟩
  case measure => simp [intOf]; omega
end Go.Proofs.YtgeengkdgdjcjaaGreat

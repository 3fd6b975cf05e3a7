/-
  HdsLw: No condition.
-/
import Derived.Test.YthnpdoadmglipaaGreatArgs
import Derived.Test.YthnpdoadmglipaaGreatHeadHs
import Derived.Test.YthnpdoadmglipaaGreatHeadsOk2
import Derived.Test.YthnpdoadmglipaaGreatMapRec
import Derived.Test.YthnpdoadmglipaaGreatFollowsB
import Derived.Test.YthnpdoadmglipaaGreatAppSrc
namespace Go.Proofs.YthnpdoadmglipaaGreat
set_option maxHeartbeats 16000000
set_option maxRecDepth 100000
set_option linter.unusedSimpArgs false
open Go.RowKit Go.WideShapes Go.ChangeAt
set_option linter.unusedVariables false
theorem byte9_typed {w : World} {n : Nat} {cs : List Value} (h : Typed Tryz.prog w n 5 cs) : ∃ x, cs = byteC x ∧ ByteIn x := by
 obtain ⟨m, rfl, hw⟩ := typed_int Tryz.underlying5 h
 refine ⟨m, rfl, ?_⟩
 simp [Lit.wf, IntKind.min, IntKind.max, IntKind.signed, IntKind.bits] at hw
 exact ⟨by omega, by omega⟩
theorem big9_any (A : Option Addr) (n c : Nat) (w : World) (h : n ≤ maxLen) : Calls Tryz.prog 6 #[.slice A n c] w fun e w' => e = .returned (.bool (decide (1048576 < n))) ∧ w = w' := by
 by_cases hb : 1048576 < n
 · have hd : decide (1048576 < n) = true := decide_eq_true hb
   rw [hd]
   go_enter Tryz.func6, Tryz.ntmps6
   go_wp2_with fail
   go_ret
   exact ⟨ret_bool (by simp; omega), rfl⟩
 · have hd : decide (1048576 < n) = false := decide_eq_false hb
   rw [hd]
   go_enter Tryz.func6, Tryz.ntmps6
   go_wp2_with fail
   go_ret
   exact ⟨ret_bool (by simp; omega), rfl⟩
theorem hdc_at {l : List HeadD} {w : World} {b off : Nat} {k : Nat} {d : HeadD} (hc : ∀ j u, (l.flatMap HeadD.cells)[k * 5 + j]? = some u → w.cell? ⟨b, off + k * 5 + j, none⟩ = some u) (hd : l[k]? = some d) :
 w.cell? ⟨b, off + k * 5, none⟩ = some (.int .i64 d.number) ∧ w.cell? ⟨b, off + k * 5 + 1, none⟩ = some (.int .i64 d.size) ∧ w.cell? ⟨b, off + k * 5 + 2, none⟩ = some (.string d.root) ∧ w.cell? ⟨b, off + k * 5 + 3, none⟩ = some (.int .i64 d.taken) ∧ w.cell? ⟨b, off + k * 5 + 4, none⟩ = some (.string d.takenRoot) :=
 ⟨hc 0 _ (flat_at _ 5 HeadD.cells_length l k 0 d hd (by omega)), hc 1 _ (flat_at _ 5 HeadD.cells_length l k 1 d hd (by omega)), hc 2 _ (flat_at _ 5 HeadD.cells_length l k 2 d hd (by omega)), hc 3 _ (flat_at _ 5 HeadD.cells_length l k 3 d hd (by omega)), hc 4 _ (flat_at _ 5 HeadD.cells_length l k 4 d hd (by omega))⟩
theorem cell5 {w w' : World} {q o : Nat} {v0 v1 v2 v3 v4 : Value} (he : Ext w w') (hq : q < w.heap.size) (h : w.cell? ⟨q, o, none⟩ = some v0 ∧ w.cell? ⟨q, o + 1, none⟩ = some v1 ∧ w.cell? ⟨q, o + 2, none⟩ = some v2 ∧ w.cell? ⟨q, o + 3, none⟩ = some v3 ∧ w.cell? ⟨q, o + 4, none⟩ = some v4) :
 w'.cell? ⟨q, o, none⟩ = some v0 ∧ w'.cell? ⟨q, o + 1, none⟩ = some v1 ∧ w'.cell? ⟨q, o + 2, none⟩ = some v2 ∧ w'.cell? ⟨q, o + 3, none⟩ = some v3 ∧ w'.cell? ⟨q, o + 4, none⟩ = some v4 :=
 ⟨(he.cell (p := ⟨q, o, none⟩) hq).trans h.1, (he.cell (p := ⟨q, o + 1, none⟩) hq).trans h.2.1, (he.cell (p := ⟨q, o + 2, none⟩) hq).trans h.2.2.1, (he.cell (p := ⟨q, o + 3, none⟩) hq).trans h.2.2.2.1, (he.cell (p := ⟨q, o + 4, none⟩) hq).trans h.2.2.2.2⟩
theorem lawHeadsBack_walk (A : Option Addr) (c : Nat) (l : List Int) (w : World) (hlen : l.length ≤ maxLen) (hin : ∀ x ∈ l, ByteIn x) (hr : ReadsL w w.heap.size byteC 1 A l) :
 Calls Tryz.prog 3 #[.slice A l.length c] w fun e w' => e = .returned (.bool true) ∧ Ext w w' := by
 by_cases hb : 1048576 < l.length
 · have hd : decide (1048576 < l.length) = true := decide_eq_true hb
   go_enter Tryz.func3, Tryz.ntmps3
   go_wp2_with (go_at_call 6; refine (big9_any _ _ _ _ hlen).mono ?_; rintro e w' ⟨rfl, rfl⟩; rw [hd])
   go_ret
   exact ⟨rfl, Below.refl _ _⟩
 have hd : decide (1048576 < l.length) = false := decide_eq_false hb
 have Hr := hU hr; clear hr
 have Hin := hU hin; clear hin
 go_enter Tryz.func3, Tryz.ntmps3
 go_wp2_with (go_at_call 6; refine (big9_any _ _ _ _ hlen).mono ?_; rintro e w' ⟨rfl, rfl⟩; rw [hd])
 refine (DrawRight_any A c l _ hlen Hin.out Hr.out).mono ?_
 rintro e w1 ⟨b, M, hB, rfl, hv, he⟩
 have KZ := Blk.new w1 37 #[.int .i64 0, .slice none 0 0, .slice none 0 0, .slice none 0 0, .int .i64 0, .slice none 0 0, .int .i64 0, .slice none 0 0, .int .i64 0, .int .i64 0, .string ⟨#[]⟩, .int .i64 0, .string ⟨#[]⟩]
 obtain ⟨w2, hwa, K3, hx2⟩ : ∃ wa, wa = (w1.alloc (.cells #[.int .i64 0, .slice none 0 0, .slice none 0 0, .slice none 0 0, .int .i64 0, .slice none 0 0, .int .i64 0, .slice none 0 0, .int .i64 0, .int .i64 0, .string ⟨#[]⟩, .int .i64 0, .string ⟨#[]⟩] 37)).setCells w1.heap.size 0 M ∧ Blk wa w1.heap.size 37 M.toArray ∧ Ext w1 wa := ⟨_, rfl, put_whole KZ M (by rw [hv.len]; rfl), ext_setCells (W := w1) (Nat.le_refl _) M 0 _ (Ext.new (Below.refl _ _) _)⟩
 have T4 := hU (show World.there (w1.alloc (.cells #[.int .i64 0, .slice none 0 0, .slice none 0 0, .slice none 0 0, .int .i64 0, .slice none 0 0, .int .i64 0, .slice none 0 0, .int .i64 0, .int .i64 0, .string ⟨#[]⟩, .int .i64 0, .string ⟨#[]⟩] 37)) w1.heap.size 0 M.length by rw [hv.len]; exact KZ.there 0 13 (by simp)); have HW := hU hwa
 have HX13 := hU hv.len; have HX1 := hU hv.one
 have hs1 := he.size
 clear hwa KZ
 replace hv := hv.ext hx2; replace he := he.next hx2
 go_upto_region 4 with (refine wpList_store_list rfl 37 _ _ rfl rfl w1.heap.size 0 M rfl rfl T4.out (by rw [HX13.out]; kernel_rfl) HX1.out ?_; rw [← HW.out])
 obtain ⟨g3, hg3⟩ : ∃ g3, g3 = w1.heap.size := ⟨_, rfl⟩
 rw [← hg3] at K3
 rw [← hg3]
 have hg3w : w.heap.size ≤ g3 := by omega
 clear T4 HW HX1 hx2 hg3 Hr Hin hs1 hd hb
 obtain ⟨X0, x0, X1, x1, X2, x2, X3, x3, X4, x4, hM, rows, ap⟩ := hv
 have sh := (slf_at rows.h).any
 obtain ⟨b0, off, hX2, hb0, hcell⟩ := sh.reads.2 (broker_parts hB).2.2.2.2.2.1
 subst hX2
 have HC := hU (fun (j : Nat) (x : HeadD) (hj : b.heads[j]? = some x) => hdc_at (w := w2) (b := b0) (off := off) (fun i u hu => by have := hcell (j * 5 + i) u hu; rw [← Nat.add_assoc] at this; exact this) hj)
 clear hcell
 have HO := hU (broker_parts hB).2.2.2.2.2.2.2
 have HHS : headsOk b.width b.heads = true := ((broker_iff b).1 hB).2.2.2.2.1
 have HF := hU (fun (i k : Nat) (g h : HeadD) (hg : b.heads[i]? = some g) (hh : b.heads[k]? = some h) => heads_follow hB hg hh)
 obtain ⟨LH, hLH⟩ : ∃ LH, LH = b.heads.length := ⟨_, rfl⟩
 obtain ⟨wd, hwd⟩ : ∃ wd, wd = b.width := ⟨_, rfl⟩
 have BH : ∀ (W : World), Blk W g3 37 M.toArray → W.cell? ⟨g3, 0, none⟩ = some (.int .i64 wd) ∧ W.cell? ⟨g3, 3, none⟩ = some (.slice (some ⟨b0, off, none⟩) LH x2) := fun W h => by
  rw [hM] at h
  rw [hLH, hwd]
  exact ⟨h.cell 0, h.cell 3⟩
 have BH := hU BH
 have HS := hU (fun (W : World) (h : Ext w2 W) => implHeadsOk_any b.width (some ⟨b0, off, none⟩) x2 b.heads W (sh.ext h))
 rw [HHS] at HS
 have SH := hU sh
 have hl400 : LH ≤ 400 := by rw [hLH]; exact (broker_parts hB).2.2.2.2.2.2.1
 rw [← hLH, ← hwd] at HS
 rw [← hwd] at HF HO
 have HLH := hU hLH
 have HE := hU he
 have K3H := hU K3
 obtain ⟨c0, c3⟩ := BH.out _ K3
 clear hM rows ap HHS sh hLH hwd hB he K3 HX13
 go_wp2_with fail
 refine (HS.out _ (Below.refl _ _)).mono ?_
 rintro e w3 ⟨rfl, h1⟩
 have E3 := hU h1
 clear h1 c0 c3 HS
 go_upto_region 7 with fail
 go_loopw [4] (fun i wr => ∃ k : Nat, k ≤ LH ∧ i = .int .i64 k ∧ Ext w2 wr) (fun i _ => LH - (intOf i).toNat)
 case atStart => exact ⟨0, Nat.zero_le _, rfl, E3.out⟩
 case round =>
  clear E3
  obtain ⟨k, hk, rfl, he⟩ := hrel
  have KB := hU (K3H.out.ext he)
  obtain ⟨c0, c3⟩ := BH.out _ KB.out
  by_cases hlt : k < LH
  case neg =>
   go_wp2_with fail
   go_ret
   exact ⟨rfl, HE.out.next he⟩
  have hlt' : k < b.heads.length := by rw [← HLH.out]; exact hlt
  obtain ⟨d, hd⟩ : ∃ d, d = b.heads[k] := ⟨_, rfl⟩
  have hdl : b.heads[k]? = some d := by rw [hd]; exact List.getElem?_eq_getElem hlt'
  have CK := hU (HC.out k d hdl)
  have hok := HO.out d (List.mem_of_getElem? hdl)
  have Hdl := hU hdl
  have KE := hU he
  obtain ⟨T, hT⟩ : ∃ T, T = headText wd d := ⟨_, rfl⟩
  obtain ⟨V, hV⟩ : ∃ V, V = digest wd 3 T := ⟨_, rfl⟩
  have HTX := hU (fun W => implHeadText_any wd d W)
  rw [hok, ← hT] at HTX
  have RHX : Hid (∀ W : World, Calls Tryz.prog 10 #[.int .i64 wd, .string T] W fun e w' => e = .returned (.tuple #[.agg #[.int .i64 d.number, .int .i64 d.size, .string d.root, .int .i64 d.taken, .string d.takenRoot], .bool true]) ∧ Ext W w') := hU (fun W => by
   have h1 := implReadHead_any wd T W (by rw [hT]; have := (headText_fits hok).2; omega)
   have h2 := head_back hok
   rw [← hT] at h2
   rw [h2.1, h2.2] at h1
   exact h1)
  have HHX := hU (fun W => implHeadHash_good wd d W hok)
  rw [← hT, ← hV] at HHX
  have ES : d.eqb d = true := HeadD.eqb_self d
  clear hd hdl hok hT hV hlt' he
  have hb2 : b0 < wr.heap.size := Nat.lt_of_lt_of_le hb0 KE.out.size
  go_upto_region 9 with fail
  clear c0 c3
  refine wp_region_held_drew (S := fun w' => Ext wr w') (by kernel_rfl) (Below.refl _ _).drew (fun hH => ?_)
  refine takeQ 0 (.pointer (some ⟨g3, 0, none⟩)) (some 32) rfl rfl (by kernel_rfl) (Or.inl ⟨by rfl, ?ya1⟩) hH ?ra1
  case ya1 => intro w' hS'; go_simp; try with_reducible rfl
  try simp only [zA]
  refine takeQ 1 (.int .i64 wd) (some 33) rfl rfl (by kernel_rfl) (Or.inl ⟨by rfl, ?ya2⟩) hH ?ra2
  case ya2 => intro w' hS'; obtain ⟨c0, c3⟩ := BH.out _ (KB.out.ext hS'); obtain ⟨z0, z1, z2, z3, z4⟩ := cell5 (KE.out.next hS') hb0 CK.out; go_simp; try with_reducible rfl
  try simp only [zA]
  refine takeQ 2 (.pointer (some ⟨g3, 3, none⟩)) (some 34) rfl rfl (by kernel_rfl) (Or.inl ⟨by rfl, ?ya3⟩) hH ?ra3
  case ya3 => intro w' hS'; go_simp; try with_reducible rfl
  try simp only [zA]
  refine takeQ 3 (.slice (some ⟨b0, off, none⟩) LH x2) (some 35) rfl rfl (by kernel_rfl) (Or.inl ⟨by rfl, ?ya4⟩) hH ?ra4
  case ya4 => intro w' hS'; obtain ⟨c0, c3⟩ := BH.out _ (KB.out.ext hS'); obtain ⟨z0, z1, z2, z3, z4⟩ := cell5 (KE.out.next hS') hb0 CK.out; go_simp; try with_reducible rfl
  try simp only [zA]
  refine takeQ 4 (.int .i64 (k : Int)) (some 36) rfl rfl (by kernel_rfl) (Or.inl ⟨by rfl, ?ya5⟩) hH ?ra5
  case ya5 => intro w' hS'; obtain ⟨c0, c3⟩ := BH.out _ (KB.out.ext hS'); obtain ⟨z0, z1, z2, z3, z4⟩ := cell5 (KE.out.next hS') hb0 CK.out; go_simp; try with_reducible rfl
  try simp only [zA]
  refine takeQ 5 (.pointer (some ⟨b0, off + k * 5, none⟩)) (some 37) rfl rfl (by kernel_rfl) (Or.inl ⟨by rfl, ?ya6⟩) hH ?ra6
  case ya6 => intro w' hS'; go_simp; try with_reducible rfl
  try simp only [zA]
  refine takeQ 6 (.agg #[.int .i64 d.number, .int .i64 d.size, .string d.root, .int .i64 d.taken, .string d.takenRoot]) (some 38) rfl rfl (by kernel_rfl) (Or.inl ⟨by rfl, ?ya7⟩) hH ?ra7
  case ya7 => intro w' hS'; obtain ⟨c0, c3⟩ := BH.out _ (KB.out.ext hS'); obtain ⟨z0, z1, z2, z3, z4⟩ := cell5 (KE.out.next hS') hb0 CK.out; go_simp; try with_reducible rfl
  try simp only [zA]
  refine oneH 7 (oi := _) (some 39) (by kernel_rfl) rfl rfl rfl (fun K' hK => ?_)
  refine ⟨?_⟩
  rw [if_pos (by rfl)]
  go_simp
  refine (HTX.out _).mono ?_
  rintro e w4 ⟨rfl, h1⟩
  refine hK.out _ _ ⟨_, rfl⟩ (hH.next h1) (fun hH2 => ?_)
  clear hK K' hH h1
  have hH := hH2
  clear hH2
  try simp only [zB]
  refine takeQ 8 (.tuple #[.string T, .bool true]) (some 31) rfl rfl (by kernel_rfl) (Or.inl ⟨by rfl, ?ya8⟩) hH ?ra8
  case ya8 => intro w' hS'; obtain ⟨c0, c3⟩ := BH.out _ (KB.out.ext hS'); obtain ⟨z0, z1, z2, z3, z4⟩ := cell5 (KE.out.next hS') hb0 CK.out; go_simp; try with_reducible rfl
  try simp only [zA]
  refine takeQ 9 (.string T) (some 40) rfl rfl (by kernel_rfl) (Or.inl ⟨by rfl, ?ya9⟩) hH ?ra9
  case ya9 => intro w' hS'; obtain ⟨c0, c3⟩ := BH.out _ (KB.out.ext hS'); obtain ⟨z0, z1, z2, z3, z4⟩ := cell5 (KE.out.next hS') hb0 CK.out; go_simp; try with_reducible rfl
  try simp only [zA]
  refine takeQ 10 (.bool true) (some 41) rfl rfl (by kernel_rfl) (Or.inl ⟨by rfl, ?ya10⟩) hH ?ra10
  case ya10 => intro w' hS'; go_simp; try with_reducible rfl
  try simp only [zA]
  refine takeQ 11 (.string T) (some 5) rfl rfl (by kernel_rfl) (Or.inl ⟨by rfl, ?ya11⟩) hH ?ra11
  case ya11 => intro w' hS'; obtain ⟨c0, c3⟩ := BH.out _ (KB.out.ext hS'); obtain ⟨z0, z1, z2, z3, z4⟩ := cell5 (KE.out.next hS') hb0 CK.out; go_simp; try with_reducible rfl
  try simp only [zA]
  refine takeQ 12 (.bool true) (some 6) rfl rfl (by kernel_rfl) (Or.inl ⟨by rfl, ?ya12⟩) hH ?ra12
  case ya12 => intro w' hS'; go_simp; try with_reducible rfl
  try simp only [zA]
  have h1 := hH
  clear hH
  refine wpAnyH_done (by kernel_rfl) ?_ _
  replace KB := hU (KB.out.ext h1); replace KE := hU (KE.out.next h1)
  clear h1
  obtain ⟨c0, c3⟩ := BH.out _ KB.out
  go_wp2_with fail
  refine (RHX.out _).mono ?_
  rintro e w5 ⟨rfl, h1⟩
  have hx5 := Ext.new (Below.refl w5.heap.size w5) (.cells #[.int .i64 d.number, .int .i64 d.size, .string d.root, .int .i64 d.taken, .string d.takenRoot] 33)
  have K7 := Blk.new w5 33 #[.int .i64 d.number, .int .i64 d.size, .string d.root, .int .i64 d.taken, .string d.takenRoot]
  replace KB := hU ((KB.out.ext h1).ext hx5); replace KE := hU ((KE.out.next h1).next hx5)
  clear h1 hx5 c0 c3
  go_upto_region 11 with fail
  obtain ⟨g7, hg7⟩ : ∃ g7, g7 = w5.heap.size := ⟨_, rfl⟩
  rw [← hg7] at K7
  rw [← hg7]
  clear hg7
  generalize w5.alloc (.cells #[.int .i64 d.number, .int .i64 d.size, .string d.root, .int .i64 d.taken, .string d.takenRoot] 33) = w6 at *
  obtain ⟨c0, c3⟩ := BH.out _ KB.out
  obtain ⟨r0, f0⟩ := K7.rules
  go_wp2_with fail
  refine (HHX.out _).mono ?_
  rintro e w7 ⟨rfl, h1⟩
  replace KB := hU (KB.out.ext h1); replace KE := hU (KE.out.next h1); replace K7 := K7.ext h1
  clear h1 c0 c3 r0 f0
  go_upto_region 12 with fail
  refine wp_region_held_drew (S := fun w' => Ext w7 w') (by kernel_rfl) (Below.refl _ _).drew (fun hH => ?_)
  refine takeQ 0 (.pointer (some ⟨g3, 0, none⟩)) (some 57) rfl rfl (by kernel_rfl) (Or.inl ⟨by rfl, ?yb1⟩) hH ?rb1
  case yb1 => intro w' hS'; go_simp; try with_reducible rfl
  try simp only [zA]
  refine takeQ 1 (.int .i64 wd) (some 58) rfl rfl (by kernel_rfl) (Or.inl ⟨by rfl, ?yb2⟩) hH ?rb2
  case yb2 => intro w' hS'; obtain ⟨c0, c3⟩ := BH.out _ (KB.out.ext hS'); obtain ⟨z0, z1, z2, z3, z4⟩ := cell5 (KE.out.next hS') hb0 CK.out; go_simp; try with_reducible rfl
  try simp only [zA]
  refine takeQ 2 (.pointer (some ⟨g3, 3, none⟩)) (some 59) rfl rfl (by kernel_rfl) (Or.inl ⟨by rfl, ?yb3⟩) hH ?rb3
  case yb3 => intro w' hS'; go_simp; try with_reducible rfl
  try simp only [zA]
  refine takeQ 3 (.slice (some ⟨b0, off, none⟩) LH x2) (some 60) rfl rfl (by kernel_rfl) (Or.inl ⟨by rfl, ?yb4⟩) hH ?rb4
  case yb4 => intro w' hS'; obtain ⟨c0, c3⟩ := BH.out _ (KB.out.ext hS'); obtain ⟨z0, z1, z2, z3, z4⟩ := cell5 (KE.out.next hS') hb0 CK.out; go_simp; try with_reducible rfl
  try simp only [zA]
  refine takeQ 4 (.int .i64 (k : Int)) (some 61) rfl rfl (by kernel_rfl) (Or.inl ⟨by rfl, ?yb5⟩) hH ?rb5
  case yb5 => intro w' hS'; obtain ⟨c0, c3⟩ := BH.out _ (KB.out.ext hS'); obtain ⟨z0, z1, z2, z3, z4⟩ := cell5 (KE.out.next hS') hb0 CK.out; go_simp; try with_reducible rfl
  try simp only [zA]
  refine takeQ 5 (.pointer (some ⟨b0, off + k * 5, none⟩)) (some 62) rfl rfl (by kernel_rfl) (Or.inl ⟨by rfl, ?yb6⟩) hH ?rb6
  case yb6 => intro w' hS'; go_simp; try with_reducible rfl
  try simp only [zA]
  refine takeQ 6 (.agg #[.int .i64 d.number, .int .i64 d.size, .string d.root, .int .i64 d.taken, .string d.takenRoot]) (some 63) rfl rfl (by kernel_rfl) (Or.inl ⟨by rfl, ?yb7⟩) hH ?rb7
  case yb7 => intro w' hS'; obtain ⟨c0, c3⟩ := BH.out _ (KB.out.ext hS'); obtain ⟨z0, z1, z2, z3, z4⟩ := cell5 (KE.out.next hS') hb0 CK.out; go_simp; try with_reducible rfl
  try simp only [zA]
  refine oneH 7 (oi := _) (some 64) (by kernel_rfl) rfl rfl rfl (fun K' hK => ?_)
  refine ⟨?_⟩
  rw [if_pos (by rfl)]
  go_simp
  refine (HHX.out _).mono ?_
  rintro e w8 ⟨rfl, h1⟩
  refine hK.out _ _ ⟨_, rfl⟩ (hH.next h1) (fun hH2 => ?_)
  clear hK K' hH h1
  have hH := hH2
  clear hH2
  try simp only [zB]
  refine takeQ 8 (.tuple #[.string V, .bool true]) (some 56) rfl rfl (by kernel_rfl) (Or.inl ⟨by rfl, ?yb8⟩) hH ?rb8
  case yb8 => intro w' hS'; obtain ⟨c0, c3⟩ := BH.out _ (KB.out.ext hS'); obtain ⟨z0, z1, z2, z3, z4⟩ := cell5 (KE.out.next hS') hb0 CK.out; go_simp; try with_reducible rfl
  try simp only [zA]
  refine takeQ 9 (.string V) (some 65) rfl rfl (by kernel_rfl) (Or.inl ⟨by rfl, ?yb9⟩) hH ?rb9
  case yb9 => intro w' hS'; obtain ⟨c0, c3⟩ := BH.out _ (KB.out.ext hS'); obtain ⟨z0, z1, z2, z3, z4⟩ := cell5 (KE.out.next hS') hb0 CK.out; go_simp; try with_reducible rfl
  try simp only [zA]
  refine takeQ 10 (.bool true) (some 66) rfl rfl (by kernel_rfl) (Or.inl ⟨by rfl, ?yb10⟩) hH ?rb10
  case yb10 => intro w' hS'; go_simp; try with_reducible rfl
  try simp only [zA]
  refine takeQ 11 (.string V) (some 11) rfl rfl (by kernel_rfl) (Or.inl ⟨by rfl, ?yb11⟩) hH ?rb11
  case yb11 => intro w' hS'; obtain ⟨c0, c3⟩ := BH.out _ (KB.out.ext hS'); obtain ⟨z0, z1, z2, z3, z4⟩ := cell5 (KE.out.next hS') hb0 CK.out; go_simp; try with_reducible rfl
  try simp only [zA]
  refine takeQ 12 (.bool true) (some 12) rfl rfl (by kernel_rfl) (Or.inl ⟨by rfl, ?yb12⟩) hH ?rb12
  case yb12 => intro w' hS'; go_simp; try with_reducible rfl
  try simp only [zA]
  have h1 := hH
  clear hH
  refine wpAnyH_done (by kernel_rfl) ?_ _
  replace KB := hU (KB.out.ext h1); replace KE := hU (KE.out.next h1); replace K7 := K7.ext h1
  clear h1
  have K7H := hU K7
  clear K7
  go_upto_region 13 with fail
  refine wp_region_held_drew (S := fun w' => Ext w8 w') (by kernel_rfl) (Below.refl _ _).drew (fun hH => ?_)
  refine takeQ 0 (.bool true) (some 67) rfl rfl (by kernel_rfl) (Or.inl ⟨by rfl, ?yc1⟩) hH ?rc1
  case yc1 => intro w' hS'; go_simp; try with_reducible rfl
  try simp only [zA]
  refine takeQ 1 (.bool false) (some 68) rfl rfl (by kernel_rfl) (Or.inl ⟨by rfl, ?yc2⟩) hH ?rc2
  case yc2 => intro w' hS'; go_simp; try with_reducible rfl
  try simp only [zA]
  refine takeQ 2 (.bool false) (some 69) rfl rfl (by kernel_rfl) (Or.inl ⟨by rfl, ?yc3⟩) hH ?rc3
  case yc3 => intro w' hS'; go_simp; try with_reducible rfl
  try simp only [zA]
  refine takeQ 3 (.bool true) (some 70) rfl rfl (by kernel_rfl) (Or.inl ⟨by rfl, ?yc4⟩) hH ?rc4
  case yc4 => intro w' hS'; go_simp; try with_reducible rfl
  try simp only [zA]
  refine takeQ 4 (.bool false) (some 71) rfl rfl (by kernel_rfl) (Or.inl ⟨by rfl, ?yc5⟩) hH ?rc5
  case yc5 => intro w' hS'; go_simp; try with_reducible rfl
  try simp only [zA]
  refine takeQ 5 (.bool false) (some 72) rfl rfl (by kernel_rfl) (Or.inl ⟨by rfl, ?yc6⟩) hH ?rc6
  case yc6 => intro w' hS'; go_simp; try with_reducible rfl
  try simp only [zA]
  refine takeQ 6 (.bool false) (some 73) rfl rfl (by kernel_rfl) (Or.inl ⟨by rfl, ?yc7⟩) hH ?rc7
  case yc7 => intro w' hS'; go_simp; try with_reducible rfl
  try simp only [zA]
  refine takeQ 7 (.bool true) (some 74) rfl rfl (by kernel_rfl) (Or.inl ⟨by rfl, ?yc8⟩) hH ?rc8
  case yc8 => intro w' hS'; go_simp; try with_reducible rfl
  try simp only [zA]
  refine takeQ 8 (.bool false) (some 75) rfl rfl (by kernel_rfl) (Or.inl ⟨by rfl, ?yc9⟩) hH ?rc9
  case yc9 => intro w' hS'; go_simp; try with_reducible rfl
  try simp only [zA]
  refine takeQ 9 (.bool false) (some 76) rfl rfl (by kernel_rfl) (Or.inl ⟨by rfl, ?yc10⟩) hH ?rc10
  case yc10 => intro w' hS'; go_simp; try with_reducible rfl
  try simp only [zA]
  refine takeQ 10 (.bool false) (some 77) rfl rfl (by kernel_rfl) (Or.inl ⟨by rfl, ?yc11⟩) hH ?rc11
  case yc11 => intro w' hS'; go_simp; try with_reducible rfl
  try simp only [zA]
  refine takeQ 11 (.bool true) (some 78) rfl rfl (by kernel_rfl) (Or.inl ⟨by rfl, ?yc12⟩) hH ?rc12
  case yc12 => intro w' hS'; go_simp; try with_reducible rfl
  try simp only [zA]
  refine takeQ 12 (.bool false) (some 79) rfl rfl (by kernel_rfl) (Or.inl ⟨by rfl, ?yc13⟩) hH ?rc13
  case yc13 => intro w' hS'; go_simp; try with_reducible rfl
  try simp only [zA]
  refine takeQ 13 (.bool false) (some 80) rfl rfl (by kernel_rfl) (Or.inl ⟨by rfl, ?yc14⟩) hH ?rc14
  case yc14 => intro w' hS'; go_simp; try with_reducible rfl
  try simp only [zA]
  refine takeQ 14 (.bool false) (some 81) rfl rfl (by kernel_rfl) (Or.inl ⟨by rfl, ?yc15⟩) hH ?rc15
  case yc15 => intro w' hS'; go_simp; try with_reducible rfl
  try simp only [zA]
  refine takeQ 15 (.agg #[.int .i64 d.number, .int .i64 d.size, .string d.root, .int .i64 d.taken, .string d.takenRoot]) (some 82) rfl rfl (by kernel_rfl) (Or.inl ⟨by rfl, ?yc16⟩) hH ?rc16
  case yc16 => intro w' hS'; obtain ⟨c0, c3⟩ := BH.out _ (KB.out.ext hS'); obtain ⟨z0, z1, z2, z3, z4⟩ := cell5 (KE.out.next hS') hb0 CK.out; obtain ⟨r0, f0⟩ := (K7H.out.ext hS').rules; go_simp; try with_reducible rfl
  try simp only [zA]
  refine takeQ 16 (.pointer (some ⟨g3, 3, none⟩)) (some 83) rfl rfl (by kernel_rfl) (Or.inl ⟨by rfl, ?yc17⟩) hH ?rc17
  case yc17 => intro w' hS'; go_simp; try with_reducible rfl
  try simp only [zA]
  refine takeQ 17 (.slice (some ⟨b0, off, none⟩) LH x2) (some 84) rfl rfl (by kernel_rfl) (Or.inl ⟨by rfl, ?yc18⟩) hH ?rc18
  case yc18 => intro w' hS'; obtain ⟨c0, c3⟩ := BH.out _ (KB.out.ext hS'); obtain ⟨z0, z1, z2, z3, z4⟩ := cell5 (KE.out.next hS') hb0 CK.out; obtain ⟨r0, f0⟩ := (K7H.out.ext hS').rules; go_simp; try with_reducible rfl
  try simp only [zA]
  refine takeQ 18 (.int .i64 (k : Int)) (some 85) rfl rfl (by kernel_rfl) (Or.inl ⟨by rfl, ?yc19⟩) hH ?rc19
  case yc19 => intro w' hS'; obtain ⟨c0, c3⟩ := BH.out _ (KB.out.ext hS'); obtain ⟨z0, z1, z2, z3, z4⟩ := cell5 (KE.out.next hS') hb0 CK.out; obtain ⟨r0, f0⟩ := (K7H.out.ext hS').rules; go_simp; try with_reducible rfl
  try simp only [zA]
  refine takeQ 19 (.pointer (some ⟨b0, off + k * 5, none⟩)) (some 86) rfl rfl (by kernel_rfl) (Or.inl ⟨by rfl, ?yc20⟩) hH ?rc20
  case yc20 => intro w' hS'; go_simp; try with_reducible rfl
  try simp only [zA]
  refine takeQ 20 (.agg #[.int .i64 d.number, .int .i64 d.size, .string d.root, .int .i64 d.taken, .string d.takenRoot]) (some 87) rfl rfl (by kernel_rfl) (Or.inl ⟨by rfl, ?yc21⟩) hH ?rc21
  case yc21 => intro w' hS'; obtain ⟨c0, c3⟩ := BH.out _ (KB.out.ext hS'); obtain ⟨z0, z1, z2, z3, z4⟩ := cell5 (KE.out.next hS') hb0 CK.out; obtain ⟨r0, f0⟩ := (K7H.out.ext hS').rules; go_simp; try with_reducible rfl
  try simp only [zA]
  refine takeQ 21 (.bool false) (some 88) rfl rfl (by kernel_rfl) (Or.inl ⟨by rfl, ?yc22⟩) hH ?rc22
  case yc22 => intro w' hS'; go_simp; try with_reducible rfl
  try simp only [zA]
  refine takeQ 22 (.bool false) (some 89) rfl rfl (by kernel_rfl) (Or.inl ⟨by rfl, ?yc23⟩) hH ?rc23
  case yc23 => intro w' hS'; go_simp; try with_reducible rfl
  try simp only [zA]
  refine takeQ 23 (.bool false) (some 90) rfl rfl (by kernel_rfl) (Or.inl ⟨by rfl, ?yc24⟩) hH ?rc24
  case yc24 => intro w' hS'; go_simp; try with_reducible rfl
  try simp only [zA]
  refine takeQ 24 (.string V) (some 91) rfl rfl (by kernel_rfl) (Or.inl ⟨by rfl, ?yc25⟩) hH ?rc25
  case yc25 => intro w' hS'; obtain ⟨c0, c3⟩ := BH.out _ (KB.out.ext hS'); obtain ⟨z0, z1, z2, z3, z4⟩ := cell5 (KE.out.next hS') hb0 CK.out; obtain ⟨r0, f0⟩ := (K7H.out.ext hS').rules; go_simp; try with_reducible rfl
  try simp only [zA]
  refine takeQ 25 (.string V) (some 92) rfl rfl (by kernel_rfl) (Or.inl ⟨by rfl, ?yc26⟩) hH ?rc26
  case yc26 => intro w' hS'; obtain ⟨c0, c3⟩ := BH.out _ (KB.out.ext hS'); obtain ⟨z0, z1, z2, z3, z4⟩ := cell5 (KE.out.next hS') hb0 CK.out; obtain ⟨r0, f0⟩ := (K7H.out.ext hS').rules; go_simp; try with_reducible rfl
  try simp only [zA]
  refine takeQ 26 (.bool false) (some 93) rfl rfl (by kernel_rfl) (Or.inl ⟨by rfl, ?yc27⟩) hH ?rc27
  case yc27 => intro w' hS'; go_simp; try with_reducible rfl
  try simp only [zA]
  refine takeQ 27 (.bool false) (some 94) rfl rfl (by kernel_rfl) (Or.inl ⟨by rfl, ?yc28⟩) hH ?rc28
  case yc28 => intro w' hS'; go_simp; try with_reducible rfl
  try simp only [zA]
  have h1 := hH
  clear hH
  refine wpAnyH_done (by kernel_rfl) ?_ _
  replace KB := hU (KB.out.ext h1); replace KE := hU (KE.out.next h1)
  clear h1 K7H
  go_upto_region 16 with fail
  have E9 := hU KE.out
  go_loopw [13] (fun i wq => ∃ j : Nat, j ≤ LH ∧ i = .int .i64 j ∧ Ext w2 wq) (fun i _ => LH - (intOf i).toNat)
  case atStart => exact ⟨0, Nat.zero_le _, rfl, E9.out⟩
  case round =>
   clear E9 KB KE
   obtain ⟨j, hj, rfl, he⟩ := hrel
   have KB := hU (K3H.out.ext he)
   obtain ⟨c0, c3⟩ := BH.out _ KB.out
   by_cases hjl : j < LH
   case neg =>
    go_wp2_with fail
    go_roundw
    case rel => exact ⟨k + 1, by omega, by go_num, he⟩
    case measure => simp [intOf]; omega
   have hjl' : j < b.heads.length := by rw [← HLH.out]; exact hjl
   obtain ⟨x, hx⟩ : ∃ x, x = b.heads[j] := ⟨_, rfl⟩
   have hxl : b.heads[j]? = some x := by rw [hx]; exact List.getElem?_eq_getElem hjl'
   have CJ := hU (HC.out j x hxl)
   obtain ⟨f1, f2, o1, o2⟩ := HF.out k j d x Hdl.out hxl
   have FOL := hU (fun W => implFollows_any wd d x W)
   have FRK := hU (fun W => implForkOf_any wd d x W (head_right o1) (head_right o2))
   rw [f1] at FOL
   rw [f2] at FRK
   have KE := hU he
   clear f1 f2 o1 o2 hx hxl hjl' he
   go_upto_region 18 with fail
   clear c0 c3
   by_cases hkj : k < j
   · have g1 : decide (k < j) = true := decide_eq_true hkj
     have g2 : (k : Int) < (j : Int) := by omega
     rw [g1] at FOL
     clear g1
     refine wp_region_held_drew (S := fun w' => Ext wr w') (by kernel_rfl) (Below.refl _ _).drew (fun hH => ?_)
     refine takeQ 0 (.pointer (some ⟨g3, 0, none⟩)) (some 102) rfl rfl (by kernel_rfl) (Or.inl ⟨by rfl, ?yd1⟩) hH ?rd1
     case yd1 => intro w' hS'; go_simp; try with_reducible rfl
     try simp only [zA]
     refine takeQ 1 (.int .i64 wd) (some 103) rfl rfl (by kernel_rfl) (Or.inl ⟨by rfl, ?yd2⟩) hH ?rd2
     case yd2 => intro w' hS'; obtain ⟨c0, c3⟩ := BH.out _ (KB.out.ext hS'); obtain ⟨z0, z1, z2, z3, z4⟩ := cell5 (KE.out.next hS') hb0 CK.out; obtain ⟨y0, y1, y2, y3, y4⟩ := cell5 (KE.out.next hS') hb0 CJ.out; go_simp; try with_reducible rfl
     try simp only [zA]
     refine takeQ 2 (.pointer (some ⟨g3, 3, none⟩)) (some 104) rfl rfl (by kernel_rfl) (Or.inl ⟨by rfl, ?yd3⟩) hH ?rd3
     case yd3 => intro w' hS'; go_simp; try with_reducible rfl
     try simp only [zA]
     refine takeQ 3 (.slice (some ⟨b0, off, none⟩) LH x2) (some 105) rfl rfl (by kernel_rfl) (Or.inl ⟨by rfl, ?yd4⟩) hH ?rd4
     case yd4 => intro w' hS'; obtain ⟨c0, c3⟩ := BH.out _ (KB.out.ext hS'); obtain ⟨z0, z1, z2, z3, z4⟩ := cell5 (KE.out.next hS') hb0 CK.out; obtain ⟨y0, y1, y2, y3, y4⟩ := cell5 (KE.out.next hS') hb0 CJ.out; go_simp; try with_reducible rfl
     try simp only [zA]
     refine takeQ 4 (.int .i64 (k : Int)) (some 106) rfl rfl (by kernel_rfl) (Or.inl ⟨by rfl, ?yd5⟩) hH ?rd5
     case yd5 => intro w' hS'; obtain ⟨c0, c3⟩ := BH.out _ (KB.out.ext hS'); obtain ⟨z0, z1, z2, z3, z4⟩ := cell5 (KE.out.next hS') hb0 CK.out; obtain ⟨y0, y1, y2, y3, y4⟩ := cell5 (KE.out.next hS') hb0 CJ.out; go_simp; try with_reducible rfl
     try simp only [zA]
     refine takeQ 5 (.pointer (some ⟨b0, off + k * 5, none⟩)) (some 107) rfl rfl (by kernel_rfl) (Or.inl ⟨by rfl, ?yd6⟩) hH ?rd6
     case yd6 => intro w' hS'; go_simp; try with_reducible rfl
     try simp only [zA]
     refine takeQ 6 (.agg #[.int .i64 d.number, .int .i64 d.size, .string d.root, .int .i64 d.taken, .string d.takenRoot]) (some 108) rfl rfl (by kernel_rfl) (Or.inl ⟨by rfl, ?yd7⟩) hH ?rd7
     case yd7 => intro w' hS'; obtain ⟨c0, c3⟩ := BH.out _ (KB.out.ext hS'); obtain ⟨z0, z1, z2, z3, z4⟩ := cell5 (KE.out.next hS') hb0 CK.out; obtain ⟨y0, y1, y2, y3, y4⟩ := cell5 (KE.out.next hS') hb0 CJ.out; go_simp; try with_reducible rfl
     try simp only [zA]
     refine takeQ 7 (.pointer (some ⟨g3, 3, none⟩)) (some 109) rfl rfl (by kernel_rfl) (Or.inl ⟨by rfl, ?yd8⟩) hH ?rd8
     case yd8 => intro w' hS'; go_simp; try with_reducible rfl
     try simp only [zA]
     refine takeQ 8 (.slice (some ⟨b0, off, none⟩) LH x2) (some 110) rfl rfl (by kernel_rfl) (Or.inl ⟨by rfl, ?yd9⟩) hH ?rd9
     case yd9 => intro w' hS'; obtain ⟨c0, c3⟩ := BH.out _ (KB.out.ext hS'); obtain ⟨z0, z1, z2, z3, z4⟩ := cell5 (KE.out.next hS') hb0 CK.out; obtain ⟨y0, y1, y2, y3, y4⟩ := cell5 (KE.out.next hS') hb0 CJ.out; go_simp; try with_reducible rfl
     try simp only [zA]
     refine takeQ 9 (.int .i64 (j : Int)) (some 111) rfl rfl (by kernel_rfl) (Or.inl ⟨by rfl, ?yd10⟩) hH ?rd10
     case yd10 => intro w' hS'; obtain ⟨c0, c3⟩ := BH.out _ (KB.out.ext hS'); obtain ⟨z0, z1, z2, z3, z4⟩ := cell5 (KE.out.next hS') hb0 CK.out; obtain ⟨y0, y1, y2, y3, y4⟩ := cell5 (KE.out.next hS') hb0 CJ.out; go_simp; try with_reducible rfl
     try simp only [zA]
     refine takeQ 10 (.pointer (some ⟨b0, off + j * 5, none⟩)) (some 112) rfl rfl (by kernel_rfl) (Or.inl ⟨by rfl, ?yd11⟩) hH ?rd11
     case yd11 => intro w' hS'; go_simp; try with_reducible rfl
     try simp only [zA]
     refine takeQ 11 (.agg #[.int .i64 x.number, .int .i64 x.size, .string x.root, .int .i64 x.taken, .string x.takenRoot]) (some 113) rfl rfl (by kernel_rfl) (Or.inl ⟨by rfl, ?yd12⟩) hH ?rd12
     case yd12 => intro w' hS'; obtain ⟨c0, c3⟩ := BH.out _ (KB.out.ext hS'); obtain ⟨z0, z1, z2, z3, z4⟩ := cell5 (KE.out.next hS') hb0 CK.out; obtain ⟨y0, y1, y2, y3, y4⟩ := cell5 (KE.out.next hS') hb0 CJ.out; go_simp; try with_reducible rfl
     try simp only [zA]
     refine takeQ 13 (.int .i64 (k : Int)) (some 115) rfl rfl (by kernel_rfl) (Or.inl ⟨by rfl, ?yd13⟩) hH ?rd13
     case yd13 => intro w' hS'; obtain ⟨c0, c3⟩ := BH.out _ (KB.out.ext hS'); obtain ⟨z0, z1, z2, z3, z4⟩ := cell5 (KE.out.next hS') hb0 CK.out; obtain ⟨y0, y1, y2, y3, y4⟩ := cell5 (KE.out.next hS') hb0 CJ.out; go_simp; try with_reducible rfl
     try simp only [zA]
     refine takeQ 14 (.int .i64 (j : Int)) (some 116) rfl rfl (by kernel_rfl) (Or.inl ⟨by rfl, ?yd14⟩) hH ?rd14
     case yd14 => intro w' hS'; obtain ⟨c0, c3⟩ := BH.out _ (KB.out.ext hS'); obtain ⟨z0, z1, z2, z3, z4⟩ := cell5 (KE.out.next hS') hb0 CK.out; obtain ⟨y0, y1, y2, y3, y4⟩ := cell5 (KE.out.next hS') hb0 CJ.out; go_simp; try with_reducible rfl
     try simp only [zA]
     refine takeQ 15 (.bool true) (some 117) rfl rfl (by kernel_rfl) (Or.inl ⟨by rfl, ?yd15⟩) hH ?rd15
     case yd15 => intro w' hS'; go_simp; try with_reducible rfl
     try simp only [zA]
     refine oneH 12 (oi := _) (some 114) (by kernel_rfl) rfl rfl rfl (fun K' hK => ?_)
     refine ⟨?_⟩
     rw [if_pos (by rfl)]
     go_simp
     refine (FOL.out _).mono ?_
     rintro e w10 ⟨rfl, h1⟩
     refine hK.out _ _ ⟨_, rfl⟩ (hH.next h1) (fun hH2 => ?_)
     clear hK K' hH h1
     have hH := hH2
     clear hH2
     try simp only [zB]
     refine takeQ 16 (.bool false) (some 118) rfl rfl (by kernel_rfl) (Or.inl ⟨by rfl, ?yd16⟩) hH ?rd16
     case yd16 => intro w' hS'; go_simp; try with_reducible rfl
     try simp only [zA]
     refine takeQ 17 (.bool false) (some 119) rfl rfl (by kernel_rfl) (Or.inl ⟨by rfl, ?yd17⟩) hH ?rd17
     case yd17 => intro w' hS'; go_simp; try with_reducible rfl
     try simp only [zA]
     refine takeQ 18 (.pointer (some ⟨g3, 0, none⟩)) (some 120) rfl rfl (by kernel_rfl) (Or.inl ⟨by rfl, ?yd18⟩) hH ?rd18
     case yd18 => intro w' hS'; go_simp; try with_reducible rfl
     try simp only [zA]
     refine takeQ 19 (.int .i64 wd) (some 121) rfl rfl (by kernel_rfl) (Or.inl ⟨by rfl, ?yd19⟩) hH ?rd19
     case yd19 => intro w' hS'; obtain ⟨c0, c3⟩ := BH.out _ (KB.out.ext hS'); obtain ⟨z0, z1, z2, z3, z4⟩ := cell5 (KE.out.next hS') hb0 CK.out; obtain ⟨y0, y1, y2, y3, y4⟩ := cell5 (KE.out.next hS') hb0 CJ.out; go_simp; try with_reducible rfl
     try simp only [zA]
     refine takeQ 20 (.pointer (some ⟨g3, 3, none⟩)) (some 122) rfl rfl (by kernel_rfl) (Or.inl ⟨by rfl, ?yd20⟩) hH ?rd20
     case yd20 => intro w' hS'; go_simp; try with_reducible rfl
     try simp only [zA]
     refine takeQ 21 (.slice (some ⟨b0, off, none⟩) LH x2) (some 123) rfl rfl (by kernel_rfl) (Or.inl ⟨by rfl, ?yd21⟩) hH ?rd21
     case yd21 => intro w' hS'; obtain ⟨c0, c3⟩ := BH.out _ (KB.out.ext hS'); obtain ⟨z0, z1, z2, z3, z4⟩ := cell5 (KE.out.next hS') hb0 CK.out; obtain ⟨y0, y1, y2, y3, y4⟩ := cell5 (KE.out.next hS') hb0 CJ.out; go_simp; try with_reducible rfl
     try simp only [zA]
     refine takeQ 22 (.int .i64 (k : Int)) (some 124) rfl rfl (by kernel_rfl) (Or.inl ⟨by rfl, ?yd22⟩) hH ?rd22
     case yd22 => intro w' hS'; obtain ⟨c0, c3⟩ := BH.out _ (KB.out.ext hS'); obtain ⟨z0, z1, z2, z3, z4⟩ := cell5 (KE.out.next hS') hb0 CK.out; obtain ⟨y0, y1, y2, y3, y4⟩ := cell5 (KE.out.next hS') hb0 CJ.out; go_simp; try with_reducible rfl
     try simp only [zA]
     refine takeQ 23 (.pointer (some ⟨b0, off + k * 5, none⟩)) (some 125) rfl rfl (by kernel_rfl) (Or.inl ⟨by rfl, ?yd23⟩) hH ?rd23
     case yd23 => intro w' hS'; go_simp; try with_reducible rfl
     try simp only [zA]
     refine takeQ 24 (.agg #[.int .i64 d.number, .int .i64 d.size, .string d.root, .int .i64 d.taken, .string d.takenRoot]) (some 126) rfl rfl (by kernel_rfl) (Or.inl ⟨by rfl, ?yd24⟩) hH ?rd24
     case yd24 => intro w' hS'; obtain ⟨c0, c3⟩ := BH.out _ (KB.out.ext hS'); obtain ⟨z0, z1, z2, z3, z4⟩ := cell5 (KE.out.next hS') hb0 CK.out; obtain ⟨y0, y1, y2, y3, y4⟩ := cell5 (KE.out.next hS') hb0 CJ.out; go_simp; try with_reducible rfl
     try simp only [zA]
     refine takeQ 25 (.pointer (some ⟨g3, 3, none⟩)) (some 127) rfl rfl (by kernel_rfl) (Or.inl ⟨by rfl, ?yd25⟩) hH ?rd25
     case yd25 => intro w' hS'; go_simp; try with_reducible rfl
     try simp only [zA]
     refine takeQ 26 (.slice (some ⟨b0, off, none⟩) LH x2) (some 128) rfl rfl (by kernel_rfl) (Or.inl ⟨by rfl, ?yd26⟩) hH ?rd26
     case yd26 => intro w' hS'; obtain ⟨c0, c3⟩ := BH.out _ (KB.out.ext hS'); obtain ⟨z0, z1, z2, z3, z4⟩ := cell5 (KE.out.next hS') hb0 CK.out; obtain ⟨y0, y1, y2, y3, y4⟩ := cell5 (KE.out.next hS') hb0 CJ.out; go_simp; try with_reducible rfl
     try simp only [zA]
     refine takeQ 27 (.int .i64 (j : Int)) (some 129) rfl rfl (by kernel_rfl) (Or.inl ⟨by rfl, ?yd27⟩) hH ?rd27
     case yd27 => intro w' hS'; obtain ⟨c0, c3⟩ := BH.out _ (KB.out.ext hS'); obtain ⟨z0, z1, z2, z3, z4⟩ := cell5 (KE.out.next hS') hb0 CK.out; obtain ⟨y0, y1, y2, y3, y4⟩ := cell5 (KE.out.next hS') hb0 CJ.out; go_simp; try with_reducible rfl
     try simp only [zA]
     refine takeQ 28 (.pointer (some ⟨b0, off + j * 5, none⟩)) (some 130) rfl rfl (by kernel_rfl) (Or.inl ⟨by rfl, ?yd28⟩) hH ?rd28
     case yd28 => intro w' hS'; go_simp; try with_reducible rfl
     try simp only [zA]
     refine takeQ 29 (.agg #[.int .i64 x.number, .int .i64 x.size, .string x.root, .int .i64 x.taken, .string x.takenRoot]) (some 131) rfl rfl (by kernel_rfl) (Or.inl ⟨by rfl, ?yd29⟩) hH ?rd29
     case yd29 => intro w' hS'; obtain ⟨c0, c3⟩ := BH.out _ (KB.out.ext hS'); obtain ⟨z0, z1, z2, z3, z4⟩ := cell5 (KE.out.next hS') hb0 CK.out; obtain ⟨y0, y1, y2, y3, y4⟩ := cell5 (KE.out.next hS') hb0 CJ.out; go_simp; try with_reducible rfl
     try simp only [zA]
     refine oneHw 30 (oi := _) (some 132) (by kernel_rfl) rfl (by rfl) rfl (fun K' hK => ?_)
     refine ⟨?_⟩
     rw [if_pos (by rfl)]
     go_simp
     refine (FRK.out _).mono ?_
     rintro e w11 ⟨rfl, h1⟩
     refine hK.out _ _ ⟨_, rfl⟩ (hH.next h1) (fun hH2 => ?_)
     clear hK K' hH h1
     have hH := hH2
     clear hH2
     try simp only [zB]
     refine takeQ 31 (.bool false) (some 133) rfl rfl (by kernel_rfl) (Or.inl ⟨by rfl, ?yd30⟩) hH ?rd30
     case yd30 => intro w' hS'; go_simp; try with_reducible rfl
     try simp only [zA]
     have h1 := hH
     clear hH
     refine wpAnyH_done (by kernel_rfl) ?_ _
     have E2 := hU (KE.out.next h1)
     clear h1 KE KB CJ
     go_wp2_with fail
     go_roundw
     case rel => exact ⟨j + 1, by omega, by go_num, E2.out⟩
     case measure => simp [intOf]; omega
   · have g1 : decide (k < j) = false := decide_eq_false hkj
     have g2 : ¬ (k : Int) < (j : Int) := by omega
     rw [g1] at FOL
     clear g1
     refine wp_region_held_drew (S := fun w' => Ext wr w') (by kernel_rfl) (Below.refl _ _).drew (fun hH => ?_)
     refine takeQ 0 (.pointer (some ⟨g3, 0, none⟩)) (some 102) rfl rfl (by kernel_rfl) (Or.inl ⟨by rfl, ?ye1⟩) hH ?re1
     case ye1 => intro w' hS'; go_simp; try with_reducible rfl
     try simp only [zA]
     refine takeQ 1 (.int .i64 wd) (some 103) rfl rfl (by kernel_rfl) (Or.inl ⟨by rfl, ?ye2⟩) hH ?re2
     case ye2 => intro w' hS'; obtain ⟨c0, c3⟩ := BH.out _ (KB.out.ext hS'); obtain ⟨z0, z1, z2, z3, z4⟩ := cell5 (KE.out.next hS') hb0 CK.out; obtain ⟨y0, y1, y2, y3, y4⟩ := cell5 (KE.out.next hS') hb0 CJ.out; go_simp; try with_reducible rfl
     try simp only [zA]
     refine takeQ 2 (.pointer (some ⟨g3, 3, none⟩)) (some 104) rfl rfl (by kernel_rfl) (Or.inl ⟨by rfl, ?ye3⟩) hH ?re3
     case ye3 => intro w' hS'; go_simp; try with_reducible rfl
     try simp only [zA]
     refine takeQ 3 (.slice (some ⟨b0, off, none⟩) LH x2) (some 105) rfl rfl (by kernel_rfl) (Or.inl ⟨by rfl, ?ye4⟩) hH ?re4
     case ye4 => intro w' hS'; obtain ⟨c0, c3⟩ := BH.out _ (KB.out.ext hS'); obtain ⟨z0, z1, z2, z3, z4⟩ := cell5 (KE.out.next hS') hb0 CK.out; obtain ⟨y0, y1, y2, y3, y4⟩ := cell5 (KE.out.next hS') hb0 CJ.out; go_simp; try with_reducible rfl
     try simp only [zA]
     refine takeQ 4 (.int .i64 (k : Int)) (some 106) rfl rfl (by kernel_rfl) (Or.inl ⟨by rfl, ?ye5⟩) hH ?re5
     case ye5 => intro w' hS'; obtain ⟨c0, c3⟩ := BH.out _ (KB.out.ext hS'); obtain ⟨z0, z1, z2, z3, z4⟩ := cell5 (KE.out.next hS') hb0 CK.out; obtain ⟨y0, y1, y2, y3, y4⟩ := cell5 (KE.out.next hS') hb0 CJ.out; go_simp; try with_reducible rfl
     try simp only [zA]
     refine takeQ 5 (.pointer (some ⟨b0, off + k * 5, none⟩)) (some 107) rfl rfl (by kernel_rfl) (Or.inl ⟨by rfl, ?ye6⟩) hH ?re6
     case ye6 => intro w' hS'; go_simp; try with_reducible rfl
     try simp only [zA]
     refine takeQ 6 (.agg #[.int .i64 d.number, .int .i64 d.size, .string d.root, .int .i64 d.taken, .string d.takenRoot]) (some 108) rfl rfl (by kernel_rfl) (Or.inl ⟨by rfl, ?ye7⟩) hH ?re7
     case ye7 => intro w' hS'; obtain ⟨c0, c3⟩ := BH.out _ (KB.out.ext hS'); obtain ⟨z0, z1, z2, z3, z4⟩ := cell5 (KE.out.next hS') hb0 CK.out; obtain ⟨y0, y1, y2, y3, y4⟩ := cell5 (KE.out.next hS') hb0 CJ.out; go_simp; try with_reducible rfl
     try simp only [zA]
     refine takeQ 7 (.pointer (some ⟨g3, 3, none⟩)) (some 109) rfl rfl (by kernel_rfl) (Or.inl ⟨by rfl, ?ye8⟩) hH ?re8
     case ye8 => intro w' hS'; go_simp; try with_reducible rfl
     try simp only [zA]
     refine takeQ 8 (.slice (some ⟨b0, off, none⟩) LH x2) (some 110) rfl rfl (by kernel_rfl) (Or.inl ⟨by rfl, ?ye9⟩) hH ?re9
     case ye9 => intro w' hS'; obtain ⟨c0, c3⟩ := BH.out _ (KB.out.ext hS'); obtain ⟨z0, z1, z2, z3, z4⟩ := cell5 (KE.out.next hS') hb0 CK.out; obtain ⟨y0, y1, y2, y3, y4⟩ := cell5 (KE.out.next hS') hb0 CJ.out; go_simp; try with_reducible rfl
     try simp only [zA]
     refine takeQ 9 (.int .i64 (j : Int)) (some 111) rfl rfl (by kernel_rfl) (Or.inl ⟨by rfl, ?ye10⟩) hH ?re10
     case ye10 => intro w' hS'; obtain ⟨c0, c3⟩ := BH.out _ (KB.out.ext hS'); obtain ⟨z0, z1, z2, z3, z4⟩ := cell5 (KE.out.next hS') hb0 CK.out; obtain ⟨y0, y1, y2, y3, y4⟩ := cell5 (KE.out.next hS') hb0 CJ.out; go_simp; try with_reducible rfl
     try simp only [zA]
     refine takeQ 10 (.pointer (some ⟨b0, off + j * 5, none⟩)) (some 112) rfl rfl (by kernel_rfl) (Or.inl ⟨by rfl, ?ye11⟩) hH ?re11
     case ye11 => intro w' hS'; go_simp; try with_reducible rfl
     try simp only [zA]
     refine takeQ 11 (.agg #[.int .i64 x.number, .int .i64 x.size, .string x.root, .int .i64 x.taken, .string x.takenRoot]) (some 113) rfl rfl (by kernel_rfl) (Or.inl ⟨by rfl, ?ye12⟩) hH ?re12
     case ye12 => intro w' hS'; obtain ⟨c0, c3⟩ := BH.out _ (KB.out.ext hS'); obtain ⟨z0, z1, z2, z3, z4⟩ := cell5 (KE.out.next hS') hb0 CK.out; obtain ⟨y0, y1, y2, y3, y4⟩ := cell5 (KE.out.next hS') hb0 CJ.out; go_simp; try with_reducible rfl
     try simp only [zA]
     refine takeQ 13 (.int .i64 (k : Int)) (some 115) rfl rfl (by kernel_rfl) (Or.inl ⟨by rfl, ?ye13⟩) hH ?re13
     case ye13 => intro w' hS'; obtain ⟨c0, c3⟩ := BH.out _ (KB.out.ext hS'); obtain ⟨z0, z1, z2, z3, z4⟩ := cell5 (KE.out.next hS') hb0 CK.out; obtain ⟨y0, y1, y2, y3, y4⟩ := cell5 (KE.out.next hS') hb0 CJ.out; go_simp; try with_reducible rfl
     try simp only [zA]
     refine takeQ 14 (.int .i64 (j : Int)) (some 116) rfl rfl (by kernel_rfl) (Or.inl ⟨by rfl, ?ye14⟩) hH ?re14
     case ye14 => intro w' hS'; obtain ⟨c0, c3⟩ := BH.out _ (KB.out.ext hS'); obtain ⟨z0, z1, z2, z3, z4⟩ := cell5 (KE.out.next hS') hb0 CK.out; obtain ⟨y0, y1, y2, y3, y4⟩ := cell5 (KE.out.next hS') hb0 CJ.out; go_simp; try with_reducible rfl
     try simp only [zA]
     refine takeQ 15 (.bool false) (some 117) rfl rfl (by kernel_rfl) (Or.inl ⟨by rfl, ?ye15⟩) hH ?re15
     case ye15 => intro w' hS'; go_simp; try with_reducible rfl
     try simp only [zA]
     refine oneH 12 (oi := _) (some 114) (by kernel_rfl) rfl rfl rfl (fun K' hK => ?_)
     refine ⟨?_⟩
     rw [if_pos (by rfl)]
     go_simp
     refine (FOL.out _).mono ?_
     rintro e w10 ⟨rfl, h1⟩
     refine hK.out _ _ ⟨_, rfl⟩ (hH.next h1) (fun hH2 => ?_)
     clear hK K' hH h1
     have hH := hH2
     clear hH2
     try simp only [zB]
     refine takeQ 16 (.bool false) (some 118) rfl rfl (by kernel_rfl) (Or.inl ⟨by rfl, ?ye16⟩) hH ?re16
     case ye16 => intro w' hS'; go_simp; try with_reducible rfl
     try simp only [zA]
     refine takeQ 17 (.bool false) (some 119) rfl rfl (by kernel_rfl) (Or.inl ⟨by rfl, ?ye17⟩) hH ?re17
     case ye17 => intro w' hS'; go_simp; try with_reducible rfl
     try simp only [zA]
     refine takeQ 18 (.pointer (some ⟨g3, 0, none⟩)) (some 120) rfl rfl (by kernel_rfl) (Or.inl ⟨by rfl, ?ye18⟩) hH ?re18
     case ye18 => intro w' hS'; go_simp; try with_reducible rfl
     try simp only [zA]
     refine takeQ 19 (.int .i64 wd) (some 121) rfl rfl (by kernel_rfl) (Or.inl ⟨by rfl, ?ye19⟩) hH ?re19
     case ye19 => intro w' hS'; obtain ⟨c0, c3⟩ := BH.out _ (KB.out.ext hS'); obtain ⟨z0, z1, z2, z3, z4⟩ := cell5 (KE.out.next hS') hb0 CK.out; obtain ⟨y0, y1, y2, y3, y4⟩ := cell5 (KE.out.next hS') hb0 CJ.out; go_simp; try with_reducible rfl
     try simp only [zA]
     refine takeQ 20 (.pointer (some ⟨g3, 3, none⟩)) (some 122) rfl rfl (by kernel_rfl) (Or.inl ⟨by rfl, ?ye20⟩) hH ?re20
     case ye20 => intro w' hS'; go_simp; try with_reducible rfl
     try simp only [zA]
     refine takeQ 21 (.slice (some ⟨b0, off, none⟩) LH x2) (some 123) rfl rfl (by kernel_rfl) (Or.inl ⟨by rfl, ?ye21⟩) hH ?re21
     case ye21 => intro w' hS'; obtain ⟨c0, c3⟩ := BH.out _ (KB.out.ext hS'); obtain ⟨z0, z1, z2, z3, z4⟩ := cell5 (KE.out.next hS') hb0 CK.out; obtain ⟨y0, y1, y2, y3, y4⟩ := cell5 (KE.out.next hS') hb0 CJ.out; go_simp; try with_reducible rfl
     try simp only [zA]
     refine takeQ 22 (.int .i64 (k : Int)) (some 124) rfl rfl (by kernel_rfl) (Or.inl ⟨by rfl, ?ye22⟩) hH ?re22
     case ye22 => intro w' hS'; obtain ⟨c0, c3⟩ := BH.out _ (KB.out.ext hS'); obtain ⟨z0, z1, z2, z3, z4⟩ := cell5 (KE.out.next hS') hb0 CK.out; obtain ⟨y0, y1, y2, y3, y4⟩ := cell5 (KE.out.next hS') hb0 CJ.out; go_simp; try with_reducible rfl
     try simp only [zA]
     refine takeQ 23 (.pointer (some ⟨b0, off + k * 5, none⟩)) (some 125) rfl rfl (by kernel_rfl) (Or.inl ⟨by rfl, ?ye23⟩) hH ?re23
     case ye23 => intro w' hS'; go_simp; try with_reducible rfl
     try simp only [zA]
     refine takeQ 24 (.agg #[.int .i64 d.number, .int .i64 d.size, .string d.root, .int .i64 d.taken, .string d.takenRoot]) (some 126) rfl rfl (by kernel_rfl) (Or.inl ⟨by rfl, ?ye24⟩) hH ?re24
     case ye24 => intro w' hS'; obtain ⟨c0, c3⟩ := BH.out _ (KB.out.ext hS'); obtain ⟨z0, z1, z2, z3, z4⟩ := cell5 (KE.out.next hS') hb0 CK.out; obtain ⟨y0, y1, y2, y3, y4⟩ := cell5 (KE.out.next hS') hb0 CJ.out; go_simp; try with_reducible rfl
     try simp only [zA]
     refine takeQ 25 (.pointer (some ⟨g3, 3, none⟩)) (some 127) rfl rfl (by kernel_rfl) (Or.inl ⟨by rfl, ?ye25⟩) hH ?re25
     case ye25 => intro w' hS'; go_simp; try with_reducible rfl
     try simp only [zA]
     refine takeQ 26 (.slice (some ⟨b0, off, none⟩) LH x2) (some 128) rfl rfl (by kernel_rfl) (Or.inl ⟨by rfl, ?ye26⟩) hH ?re26
     case ye26 => intro w' hS'; obtain ⟨c0, c3⟩ := BH.out _ (KB.out.ext hS'); obtain ⟨z0, z1, z2, z3, z4⟩ := cell5 (KE.out.next hS') hb0 CK.out; obtain ⟨y0, y1, y2, y3, y4⟩ := cell5 (KE.out.next hS') hb0 CJ.out; go_simp; try with_reducible rfl
     try simp only [zA]
     refine takeQ 27 (.int .i64 (j : Int)) (some 129) rfl rfl (by kernel_rfl) (Or.inl ⟨by rfl, ?ye27⟩) hH ?re27
     case ye27 => intro w' hS'; obtain ⟨c0, c3⟩ := BH.out _ (KB.out.ext hS'); obtain ⟨z0, z1, z2, z3, z4⟩ := cell5 (KE.out.next hS') hb0 CK.out; obtain ⟨y0, y1, y2, y3, y4⟩ := cell5 (KE.out.next hS') hb0 CJ.out; go_simp; try with_reducible rfl
     try simp only [zA]
     refine takeQ 28 (.pointer (some ⟨b0, off + j * 5, none⟩)) (some 130) rfl rfl (by kernel_rfl) (Or.inl ⟨by rfl, ?ye28⟩) hH ?re28
     case ye28 => intro w' hS'; go_simp; try with_reducible rfl
     try simp only [zA]
     refine takeQ 29 (.agg #[.int .i64 x.number, .int .i64 x.size, .string x.root, .int .i64 x.taken, .string x.takenRoot]) (some 131) rfl rfl (by kernel_rfl) (Or.inl ⟨by rfl, ?ye29⟩) hH ?re29
     case ye29 => intro w' hS'; obtain ⟨c0, c3⟩ := BH.out _ (KB.out.ext hS'); obtain ⟨z0, z1, z2, z3, z4⟩ := cell5 (KE.out.next hS') hb0 CK.out; obtain ⟨y0, y1, y2, y3, y4⟩ := cell5 (KE.out.next hS') hb0 CJ.out; go_simp; try with_reducible rfl
     try simp only [zA]
     refine oneHw 30 (oi := _) (some 132) (by kernel_rfl) rfl (by rfl) rfl (fun K' hK => ?_)
     refine ⟨?_⟩
     rw [if_pos (by rfl)]
     go_simp
     refine (FRK.out _).mono ?_
     rintro e w11 ⟨rfl, h1⟩
     refine hK.out _ _ ⟨_, rfl⟩ (hH.next h1) (fun hH2 => ?_)
     clear hK K' hH h1
     have hH := hH2
     clear hH2
     try simp only [zB]
     refine takeQ 31 (.bool false) (some 133) rfl rfl (by kernel_rfl) (Or.inl ⟨by rfl, ?ye30⟩) hH ?re30
     case ye30 => intro w' hS'; go_simp; try with_reducible rfl
     try simp only [zA]
     have h1 := hH
     clear hH
     refine wpAnyH_done (by kernel_rfl) ?_ _
     have E2 := hU (KE.out.next h1)
     clear h1 KE KB CJ
     go_wp2_with fail
     go_roundw
     case rel => exact ⟨j + 1, by omega, by go_num, E2.out⟩
     case measure => simp [intOf]; omega
end Go.Proofs.YthnpdoadmglipaaGreat

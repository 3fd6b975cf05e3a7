/-
  FramesWk; EvidenceOps; EvOf; Disk0; Hashes: No condition.
-/
import Derived.Test.YtgeengkdgdjcjaaGreatFramesLaw
import Derived.Test.YtgeengkdgdjcjaaGreatMerkle
import Derived.Test.YtgeengkdgdjcjaaGreatRets
import Derived.Test.YtgeengkdgdjcjaaGreatLeaf
import Derived.Test.YtgeengkdgdjcjaaGreatFrames
import Derived.Test.YtgeengkdgdjcjaaGreatBunch
import Derived.Test.YtgeengkdgdjcjaaGreatBroker1
import Derived.Test.YtgeengkdgdjcjaaGreatStoreL
namespace Go.Proofs.YtgeengkdgdjcjaaGreat
set_option maxHeartbeats 4000000
set_option maxRecDepth 100000
set_option linter.unusedSimpArgs false
open Go.RowKit
set_option linter.unusedVariables false
theorem implFrame_any (T : ByteArray) (w : World) (hT : T.size ≤ maxLen) : Calls Tryz.prog 187 #[.string T] w fun e w' => e = .returned (.tuple #[.string (frameOut T), .bool (fits1 T)]) ∧ Ext w w' := by
 have HT := hU hT
 unfold maxLen at hT
 unfold fits1
 cases b1 : inR T.size 1 1000
 · have E := hU (show frameOut T = ⟨#[]⟩ by simp [frameOut, b1])
   go_enter Tryz.func187, Tryz.ntmps187
   go_wp2_with (go_at_call 117; refine (inRange_any _ _ _ _).mono ?_; rintro e w' ⟨rfl, rfl⟩)
   go_ret2
   exact ⟨by rw [E.out]; rfl, Below.refl _ _⟩
 · have E := hU (show frameOut T = frameB T by simp [frameOut, b1])
   obtain ⟨h0, h1⟩ := inR_true b1
   have d4 := dig4_size b1
   have l2 := lowB_size T.size 2
   have n1 : ¬ 9223372036854775807 < (lowB T.size 2).size + (digest 4 4 T).size := by omega
   have n2 : ¬ 9223372036854775807 < (lowB T.size 2).size + (digest 4 4 T).size + T.size := by omega
   have he := Below.refl w.heap.size w
   go_enter Tryz.func187, Tryz.ntmps187
   go_wp2_with (go_at_call 117; refine (inRange_any _ _ _ _).mono ?_; rintro e w' ⟨rfl, rfl⟩)
   refine (Digest_any 4 4 T _ HT.out).mono ?_
   rintro e w1 ⟨rfl, hx⟩
   replace he : Ext w w1 := Ext.next he hx
   go_wp2_with fail
   refine (pair_any T.size _ (by omega) (by omega)).mono ?_
   rintro e w2 ⟨rfl, hx⟩
   rw [← lowB_two]
   replace he : Ext w w2 := he.next hx
   go_wp2_with fail
   go_ret2
   exact ⟨by rw [E.out]; rfl, he⟩
theorem frameOut_fits {T : ByteArray} (h : fits1 T = true) : frameOut T = frameB T := by
 unfold frameOut; unfold fits1 at h; rw [if_pos h]
structure FInv (l : List ByteArray) (k : Nat) : Prop where
 le : k ≤ l.length
 fits : ∀ T ∈ l.take k, fits1 T = true
 small : (framesT (l.take k)).size ≤ 300000
theorem FInv.start (l : List ByteArray) : FInv l 0 := ⟨Nat.zero_le _, by simp, by simp [framesT]; exact Nat.zero_le _⟩
theorem FInv.next {l : List ByteArray} {k : Nat} {T : ByteArray} (h : FInv l k) (hT : l[k]? = some T) (hf : fits1 T = true) (hs : (framesT (l.take k)).size + (frameB T).size ≤ 300000) : FInv l (k + 1) := by
 obtain ⟨hk, he⟩ := List.getElem?_eq_some_iff.1 hT
 refine ⟨hk, fun x hx => ?_, by rw [framesT_next hT, ByteArray.size_append]; exact hs⟩
 rw [List.take_succ_eq_append_getElem hk] at hx
 rcases List.mem_append.1 hx with hx | hx
 · exact h.fits x hx
 · obtain rfl : x = l[k] := by simpa using hx
   rw [he]; exact hf
theorem FInv.done {l : List ByteArray} (h : FInv l l.length) (hl : l.length ≤ 600) : framesOk l = true := by
 obtain ⟨_, h1, h2⟩ := h
 rw [List.take_length] at h1 h2
 exact framesOk_yes hl h1 h2
theorem framesOut_no {l : List ByteArray} (h : framesOk l = false) : framesOut l = ⟨#[]⟩ := by simp [framesOut, h]
theorem framesOut_yes {l : List ByteArray} (h : framesOk l = true) : framesOut l = framesT l := by simp [framesOut, h]
theorem framesOk_long {l : List ByteArray} (h : ¬ l.length ≤ 600) : framesOk l = false := by simp [framesOk, h]
theorem sone_at {l : List ByteArray} {w : World} {b off : Nat} {k : Nat} {d : ByteArray} (hc : ∀ j u, (l.flatMap sone)[k * 1 + j]? = some u → w.cell? ⟨b, off + k * 1 + j, none⟩ = some u) (hd : l[k]? = some d) :
 w.cell? ⟨b, off + k, none⟩ = some (.string d) := by
 have := hc 0 _ (flat_at sone 1 sone_length l k 0 d hd (by omega))
 rwa [Nat.add_zero, Nat.mul_one] at this
theorem implFrames_any (A : Option Addr) (c : Nat) (l : List ByteArray) (w : World) (hr : ReadsL w w.heap.size sone 1 A l) (hl : l.length ≤ 1048576) (hs : ∀ T ∈ l, T.size ≤ maxLen) :
 Calls Tryz.prog 115 #[.slice A l.length c] w fun e w' => e = .returned (.tuple #[.string (framesOut l), .bool (framesOk l)]) ∧ Ext w w' := by
 by_cases h6 : l.length ≤ 600
 case neg =>
  have E := hU (framesOk_long h6)
  go_enter Tryz.func115, Tryz.ntmps115
  go_wp2_with fail
  go_ret2
  exact ⟨by rw [framesOut_no E.out, E.out]; rfl, Below.refl _ _⟩
 have HS := hU hs; clear hs
 have hfresh := hU (Lib.fresh_isBuilder 240 5 w)
 have He := hU (Ext.new (Below.refl w.heap.size w) (.cells #[.pointer none, .slice none 0 0] 240))
 go_enter Tryz.func115, Tryz.ntmps115
 go_wp2_with fail
 obtain ⟨b, hb⟩ : ∃ b, b = w.heap.size := ⟨_, rfl⟩
 rw [← hb] at hfresh
 rw [← hb]
 have hr' : ReadsL w b sone 1 A l := by rw [hb]; exact hr
 have He2 : ∀ w', Ext w w' → Below b w w' := fun w' h => by rw [hb]; exact h
 have Hb := hU hb
 have HA := hU (He2 _ He.out)
 clear hb hr He2 He
 go_loopw [14] (fun x wr => ∃ (k : Nat), FInv l k ∧ x = .int .i64 k ∧ Lib.IsBuilder 240 5 b b (bstr (framesT (l.take k))) wr ∧ Below b w wr ∧ b ≤ wr.heap.size) (fun x _ => l.length - (intOf x).toNat)
 case atStart => exact ⟨0, FInv.start l, rfl, hfresh.out, HA.out, by have := Hb.out; simp; omega⟩
 case round =>
  obtain ⟨k, hI, rfl, hB, he, hbs⟩ := hrel
  clear hfresh HA
  have KB := hU hB
  have HI := hU hI
  have hk := hI.le
  have hsm := hI.small
  clear hB hI
  by_cases hlt : k < l.length
  case neg =>
   obtain rfl : k = l.length := by omega
   have E := hU (HI.out.done h6)
   have hB := KB.out
   rw [List.take_length] at hB
   have hdk : decide ((l.length : Int) < (l.length : Int)) = false := by simp
   clear KB
   go_wp2_with fail
   refine (BuilderString_any b b _ _ hB hbs).mono ?_
   rintro e w2 ⟨rfl, e2⟩
   have he2 := he.trans e2
   clear hB e2 he
   go_wp2_with fail
   go_ret2
   exact ⟨by rw [framesOut_yes E.out, E.out]; rfl, by rw [Hb.out] at he2; exact he2⟩
  have hdk : decide ((k : Int) < (l.length : Int)) = true := by rw [decide_eq_true_eq]; omega
  obtain ⟨g, off, rfl, hg, hc⟩ := (hr'.below he).at_ (k := k) hlt
  obtain ⟨T, hT⟩ : ∃ T, T = l[k] := ⟨_, rfl⟩
  have hTl : l[k]? = some T := by rw [hT]; exact List.getElem?_eq_getElem hlt
  have c0 := sone_at hc hTl
  have HTl := hU hTl
  have HTs := hU (HS.out T (List.mem_of_getElem? hTl))
  clear hc hT hTl
  go_wp2_with fail
  refine (implFrame_any T _ HTs.out).mono ?_
  rintro e w1 ⟨rfl, e1⟩
  have hB1 := hU (isBuilder_ext KB.out e1)
  have he1 := he.trans (e1.mono hbs)
  have hbs1 : b ≤ w1.heap.size := Nat.le_trans hbs e1.size
  clear c0 KB he hbs e1
  cases hf : fits1 T
  · have E := hU (framesOk_no1 HTl.out hf)
    go_wp2_with fail
    go_ret2
    exact ⟨by rw [framesOut_no E.out, E.out]; rfl, by rw [Hb.out] at he1; exact he1⟩
  rw [frameOut_fits hf]
  have hfs := frameB_size hf
  obtain ⟨t0, t1⟩ := fits1_le hf
  have Hsn := hU (framesT_next HTl.out)
  have hbl := bstr_len (framesT (l.take k))
  have LB := hU (BuilderLen_any b b _ _ hB1.out)
  rw [hbl] at LB
  go_wp2_with fail
  refine LB.out.mono ?_
  rintro e w2 ⟨rfl, rfl⟩
  clear LB
  by_cases hfit : (framesT (l.take k)).size + (frameB T).size ≤ 300000
  case neg =>
   have E := hU (framesOk_no2 HTl.out (by omega))
   go_wp2_with fail
   go_ret2
   exact ⟨by rw [framesOut_no E.out, E.out]; rfl, by rw [Hb.out] at he1; exact he1⟩
  have HN := hU (HI.out.next HTl.out hf hfit)
  have WS := hU (WriteString_any b b _ (frameB T) _ hB1.out (by rw [hbl]; omega) hbs1)
  go_wp2_with fail
  refine WS.out.mono ?_
  rintro e w3 ⟨rfl, hB2, e2⟩
  have hB3 : Lib.IsBuilder 240 5 b b (bstr (framesT (l.take (k + 1)))) w3 := by rw [Hsn.out, bstr_append]; exact .inr hB2
  have KB := hU hB3
  have he2 := he1.trans e2
  have hbs2 : b ≤ w3.heap.size := Nat.le_trans hbs1 e2.size
  clear hB1 hB2 hB3 he1 e2 hbs1 WS
  go_wp2_with fail
  go_roundw
  case rel => exact ⟨k + 1, HN.out, by go_num, KB.out, he2, hbs2⟩
  case measure => simp [intOf]; omega
theorem specFrames_any (A : Option Addr) (c : Nat) (l : List ByteArray) (w : World) (hr : ReadsL w w.heap.size sone 1 A l) (hl : l.length ≤ 1048576) (hs : ∀ T ∈ l, T.size ≤ maxLen) :
 Calls Tryz.prog 280 #[.slice A l.length c] w fun e w' => e = .returned (.tuple #[.string (framesOut l), .bool (framesOk l)]) ∧ Ext w w' := by
 by_cases h6 : l.length ≤ 600
 case neg =>
  have E := hU (framesOk_long h6)
  go_enter Tryz.func280, Tryz.ntmps280
  go_wp2_with fail
  go_ret2
  exact ⟨by rw [framesOut_no E.out, E.out]; rfl, Below.refl _ _⟩
 have HS := hU hs; clear hs
 have HR := hU hr; clear hr
 obtain ⟨i0, hinf, hz0, hz1, hz2⟩ := info_parts info_u8
 have H0 := hU (ownsRow_empty w 5 1)
 have He := hU (Ext.new (Below.refl w.heap.size w) (.cells #[] 5))
 go_enter Tryz.func280, Tryz.ntmps280
 go_wp2_with fail
 obtain ⟨B, hB⟩ : ∃ B, B = w.heap.size := ⟨_, rfl⟩
 rw [← hB] at H0
 rw [← hB]
 have Hb : w.heap.size ≤ B := by omega
 have HB := hU hB
 clear hB
 go_loopw [4, 5] (fun v x wr => ∃ k : Nat, FInv l k ∧ x = .int .i64 k ∧ OwnB B wr v (framesT (l.take k)).size (intsOf (framesT (l.take k))) ∧ (k = 0 → ∃ a c, v = .slice (some a) 0 c) ∧ Ext w wr) (fun _ x _ => l.length - (intOf x).toNat)
 case atStart => exact ⟨0, FInv.start l, rfl, H0.out, fun _ => ⟨_, _, rfl⟩, He.out⟩
 case round =>
  clear H0 He
  obtain ⟨k, hI, rfl, hown, hz, he⟩ := hrel
  obtain ⟨A', c', rfl, hnc⟩ := ownsRow_form hown
  have KO := hU hown
  have HI := hU hI
  have HZ := hU hz
  have hk := hI.le
  have hsm := hI.small
  clear hown hI hz
  by_cases hlt : k < l.length
  case neg =>
   obtain rfl : k = l.length := by omega
   have E := hU (HI.out.done h6)
   have hown := KO.out
   have hconv : (convert 22 9 (.slice A' (framesT (l.take l.length)).size c')).run Tryz.prog wr = .ok (.string (framesT l)) wr := by
    rw [List.take_length] at hown ⊢
    rcases Nat.eq_zero_or_pos l.length with h0 | h0
    · obtain ⟨a, c2, ha⟩ := HZ.out h0
      obtain rfl := List.eq_nil_of_length_eq_zero h0
      obtain ⟨rfl, _, rfl⟩ : A' = some a ∧ (framesT (List.take ([] : List ByteArray).length [])).size = 0 ∧ c' = c2 := by simpa using ha
      exact string0 _ _ _
    · have hpos : 0 < (framesT l).size := by
       cases l with
       | nil => simp at h0
       | cons T l =>
         have h1 := frameB_size ((framesOk_all E.out).2.1 T (by simp))
         rw [framesT, ByteArray.size_append]; omega
      have := own_string (n := (framesT l).size) (by rw [intsOf_len]) hown hpos (intsOf_rng _)
      rwa [ofInts_intsOf] at this
   have hdk : decide ((l.length : Int) < (l.length : Int)) = false := by simp
   have hconv2 := hconv
   rw [List.take_length] at hconv2
   clear KO hown
   go_wp2_with fail
   go_ret2
   exact ⟨by rw [framesOut_yes E.out, E.out]; rfl, he⟩
  have hdk : decide ((k : Int) < (l.length : Int)) = true := by rw [decide_eq_true_eq]; omega
  obtain ⟨g, off, rfl, hg, hc⟩ := (HR.out.ext he).at_ (k := k) hlt
  obtain ⟨T, hT⟩ : ∃ T, T = l[k] := ⟨_, rfl⟩
  have hTl : l[k]? = some T := by rw [hT]; exact List.getElem?_eq_getElem hlt
  have c0 := sone_at hc hTl
  have HTl := hU hTl
  have HTs := hU (HS.out T (List.mem_of_getElem? hTl))
  clear hc hT hTl
  go_wp2_with fail
  refine (specFrame_any T _ HTs.out).mono ?_
  rintro e w1 ⟨rfl, e1⟩
  have he1 := he.next e1
  have KO1 := hU (ownsRow_ext KO.out e1)
  clear c0 KO he e1
  cases hf : inR T.size 1 1000
  · have E := hU (framesOk_no1 HTl.out (show fits1 T = false from hf))
    go_wp2_with fail
    go_ret2
    exact ⟨by rw [framesOut_no E.out, E.out]; rfl, he1⟩
  rw [frameOut_fits (show fits1 T = true from hf)]
  have hfs := frameB_size (show fits1 T = true from hf)
  obtain ⟨t0, t1⟩ := fits1_le (show fits1 T = true from hf)
  have Hsn := hU (framesT_next HTl.out)
  by_cases hfit : (framesT (l.take k)).size + (frameB T).size ≤ 300000
  case neg =>
   have E := hU (framesOk_no2 HTl.out (by omega))
   have d3 : decide (300000 - ((framesT (l.take k)).size : Int) < ((frameB T).size : Int)) = true := by rw [decide_eq_true_eq]; omega
   go_wp2_with fail
   go_ret2
   exact ⟨by rw [framesOut_no E.out, E.out]; rfl, he1⟩
  have d3 : decide (300000 - ((framesT (l.take k)).size : Int) < ((frameB T).size : Int)) = false := by rw [decide_eq_false_iff_not]; omega
  have HN := hU (HI.out.next HTl.out (show fits1 T = true from hf) hfit)
  obtain ⟨cap, w2, hrun, e2, hcell⟩ := to_bytes (P := Tryz.prog) (frameB T) Tryz.underlying9 Tryz.underlying22 Tryz.underlying5 w1
  have he2 := he1.next e2
  have KO2 := hU (ownsRow_ext KO1.out e2)
  obtain ⟨F, hF⟩ : ∃ F, F = frameB T := ⟨_, rfl⟩
  obtain ⟨G, hG⟩ : ∃ G, G = framesT (l.take k) := ⟨_, rfl⟩
  have Hn : Hid (bvals (intsOf G) ++ bvals (intsOf F) = bvals (intsOf (framesT (l.take (k + 1)))) ∧ (framesT (l.take (k + 1))).size = G.size + F.size) := hU (by rw [hF, hG, ← bvals_append, ← intsOf_append, Hsn.out, ByteArray.size_append]; exact ⟨rfl, rfl⟩)
  rw [← hF] at hrun hcell hfs hfit d3
  have hFs : F.size ≤ 1006 := by omega
  rw [← hG] at KO2 hsm hfit d3
  rw [← hF]
  try rw [← hG]
  have hnews : Hid (∀ j u, (bvals (intsOf F))[j]? = some u → w2.cell? ((⟨w1.heap.size, 0, none⟩ : Addr).add j) = some u) := hU (by
   intro j u hu
   have hj : j < F.size := by
    have := (List.getElem?_eq_some_iff.1 hu).1
    rwa [bvals_len, intsOf_len] at this
   rw [intsOf_get hj] at hu
   rw [add_mk, Nat.zero_add, hcell j hj, hu])
  have hB2 : B ≤ w2.heap.size := by have := he2.size; have := HB.out; omega
  clear hF hG he1 KO1 e2 hcell Hsn hfs
  go_wp2_with (at_builtin; refine wpList_append_own _ rfl _ _ 22 rfl B 5 i0 (.int .u8 0) 1 1 Tryz.underlying22 hinf hz0 hz1 hz2 rfl (by decide) _ _ _ rfl KO2.out ⟨w1.heap.size, 0, none⟩ F.size cap (bvals (intsOf F)) rfl ?c0 ?c1 ?c2 ?c3 ?c4 ?c5 ?_)
  case c0 => rw [bvals_len, intsOf_len, Nat.mul_one]
  case c1 => exact hnews.out
  case c2 => exact bvals_one _
  case c3 => unfold maxLen; omega
  case c4 => omega
  case c5 => exact hB2
  intro v' w3 hown' hgrow _
  have he3 := Ext.ownGrown he2 KO2.out hgrow Hb
  rw [Hn.out.1] at hown'
  have KO' := hU (show OwnB B w3 v' (framesT (l.take (k + 1))).size (intsOf (framesT (l.take (k + 1)))) from by rw [Hn.out.2]; exact hown')
  clear hown' hgrow KO2 he2 hnews hrun
  go_wp2_with fail
  go_roundw
  case rel => exact ⟨k + 1, HN.out, by go_num, KO'.out, fun h => absurd h (by omega), he3⟩
  case measure => simp [intOf]; omega

theorem three_blks (w : World) (x2 x3 x4 : Array Value) (t2 t3 t4 : TypeId) :
 Blk (((w.alloc (.cells x2 t2)).alloc (.cells x3 t3)).alloc (.cells x4 t4)) w.heap.size t2 x2 ∧ Blk (((w.alloc (.cells x2 t2)).alloc (.cells x3 t3)).alloc (.cells x4 t4)) (w.heap.size + 1) t3 x3 ∧ Blk (((w.alloc (.cells x2 t2)).alloc (.cells x3 t3)).alloc (.cells x4 t4)) (w.heap.size + 1 + 1) t4 x4 ∧ Ext w (((w.alloc (.cells x2 t2)).alloc (.cells x3 t3)).alloc (.cells x4 t4)) := by
 obtain ⟨h2, h3, he⟩ := two_blks w x2 x3 t2 t3
 have h4 : ((w.alloc (.cells x2 t2)).alloc (.cells x3 t3)).heap.size = w.heap.size + 1 + 1 := by simp
 refine ⟨h2.alloc _, h3.alloc _, ?_, Ext.new he _⟩
 have := Blk.new ((w.alloc (.cells x2 t2)).alloc (.cells x3 t3)) t4 x4; rwa [h4] at this
theorem info_string : (Tryz.prog.info? 9).map (fun i => (i.zero, i.size, i.bytes)) = some (some (.string ⟨#[]⟩), 1, 16) := by kernel_rfl
theorem make_three (W : World) : (Instr.makeSlice 29 (.int .i64 3) (.int .i64 3)).run Tryz.prog W = .ok (.slice (some ⟨W.heap.size, 0, none⟩) 3 3) (W.alloc (.cells #[.string ⟨#[]⟩, .string ⟨#[]⟩, .string ⟨#[]⟩] 9)) := by
 obtain ⟨i, hi, hz, hs, hb⟩ := info_parts info_string
 have hr := run_make (P := Tryz.prog) W 29 9 i _ Tryz.underlying29 hi hz .i64 .i64 3 3 (by omega) (Int.le_refl _) (by rw [hb]; decide) (by omega)
 rw [hs] at hr
 have e : madeCells (Value.string ⟨#[]⟩).cells (Int.toNat 3 * 1) = #[.string ⟨#[]⟩, .string ⟨#[]⟩, .string ⟨#[]⟩] := by kernel_rfl
 rw [e] at hr
 exact hr
theorem DiskNew_any (w : World) : Calls Tryz.prog 113 #[] w fun e w' => ∃ q, e = .returned (.agg #[.slice (some ⟨q, 0, none⟩) 3 3]) ∧ w.heap.size ≤ q ∧ Blk w' q 9 #[.string ⟨#[]⟩, .string ⟨#[]⟩, .string ⟨#[]⟩] ∧ Ext w w' := by
 have HM := make_three
 obtain ⟨B0, B1, he⟩ := two_new w #[.slice (some ⟨w.heap.size + 1, 0, none⟩) 3 3] #[.string ⟨#[]⟩, .string ⟨#[]⟩, .string ⟨#[]⟩] 40 9
 have K0 := hU B0; have K1 := hU B1; have He := hU he; clear B0 B1 he
 go_enter Tryz.func113, Tryz.ntmps113
 go_wp2_with fail
 exact ret_row rfl rfl K0.out Tryz.underlying40 rfl (by kernel_rfl) rfl ⟨_, rfl, by omega, K1.out, He.out⟩
set_option maxHeartbeats 2000000
theorem rec_at {l : List ReceiptD} {w : World} {b off : Nat} {k : Nat} {d : ReceiptD} (hc : ∀ j u, (l.flatMap ReceiptD.cells)[k * 3 + j]? = some u → w.cell? ⟨b, off + k * 3 + j, none⟩ = some u) (hd : l[k]? = some d) :
 w.cell? ⟨b, off + k * 3, none⟩ = some (.string d.reader) ∧ w.cell? ⟨b, off + k * 3 + 1, none⟩ = some (.string d.topic) ∧ w.cell? ⟨b, off + k * 3 + 2, none⟩ = some (.int .i64 d.index) :=
 ⟨hc 0 _ (flat_at _ 3 ReceiptD.cells_length l k 0 d hd (by omega)), hc 1 _ (flat_at _ 3 ReceiptD.cells_length l k 1 d hd (by omega)), hc 2 _ (flat_at _ 3 ReceiptD.cells_length l k 2 d hd (by omega))⟩
theorem hashesOf_any (n : Int) (A : Option Addr) (c : Nat) (l : List EntryD) (w : World) (hr : SlF AnyB EntryD.cells 5 w A l c) (hok : ∀ d ∈ l, d.Ok) (hl : l.length ≤ 1048576) :
 Calls Tryz.prog 76 #[.int .i64 n, .agg #[.slice A l.length c]] w fun e w' => ∃ v, e = .returned v ∧ w'.ownsRow w.heap.size 9 1 v l.length ((l.map (leafH n)).flatMap sone) ∧ Ext w w' := by
 obtain ⟨i0, hi, hz0, hz1, hz2⟩ := info_parts info_string
 have HR := hU hr
 have Hok := hU hok
 have He := hU (Ext.new (Below.refl w.heap.size w) (.cells #[.slice A l.length c] 26))
 clear hr hok
 go_enter Tryz.func76, Tryz.ntmps76
 go_wp2_with fail
 go_loopw [5, 13] (fun v i wr => ∃ k : Nat, k ≤ l.length ∧ i = .int .i64 k ∧ wr.ownsRow w.heap.size 9 1 v k (((l.take k).map (leafH n)).flatMap sone) ∧ Ext w wr) (fun _ i _ => l.length - (intOf i).toNat)
 case atStart => exact ⟨0, Nat.zero_le _, rfl, World.ownsRow_nil _ _ _ _, He.out⟩
 case round =>
  clear He
  obtain ⟨k, hk, rfl, hown, he⟩ := hrel
  obtain ⟨V, cv, rfl, hnc⟩ := ownsRow_form hown
  have KO := hU hown; clear hown
  by_cases hlt : k < l.length
  case neg =>
   obtain rfl : k = l.length := by omega
   go_wp2_with fail
   go_ret
   exact ⟨_, rfl, by have := KO.out; rwa [List.take_length] at this, he⟩
  obtain ⟨b, off, rfl, hb, hc⟩ := Reads.at_ (HR.out.ext he).reads (k := k) hlt
  obtain ⟨d, hd⟩ : ∃ d, d = l[k] := ⟨_, rfl⟩
  have hdl : l[k]? = some d := by rw [hd]; exact List.getElem?_eq_getElem hlt
  have hdo := Hok.out d (List.mem_of_getElem? hdl)
  obtain ⟨c0, c1, c2, c3, c4⟩ := entry_at hc hdl
  have HDO := hU hdo; have Hdl := hU hdl
  clear hc hd hdl hdo
  go_wp2_with fail
  refine (implLeafHash_any n d _ HDO.out).mono ?_
  rintro e w1 ⟨rfl, h1⟩
  have h2 : Ext wr w1 := by first | exact h1 | exact Ext.next (Ext.new (Below.refl wr.heap.size wr) _) h1
  replace he := he.next h2; replace KO := hU (ownsRow_ext KO.out h2)
  clear h1 h2 c0 c1 c2 c3 c4
  have hw1 := he.size
  obtain ⟨x, hx⟩ : ∃ x, x = leafH n d := ⟨_, rfl⟩
  rw [← hx]
  have HX := hU hx; clear hx
  go_wp2_with (at_builtin; refine wpList_append_moved _ rfl _ _ 29 rfl w.heap.size 9 i0 _ 1 16 Tryz.underlying29 hi hz0 hz1 hz2 rfl (by decide) _ _ _ rfl (KO.out.alloc _) ⟨w1.heap.size, 0, none⟩ 1 1 [.string x] rfl rfl ?c1 ?c2 ?c3 ?c4 ?c5 ?_)
  case c1 => exact (Blk.new w1 9 #[.string x]).adds
  case c2 => intro u hu; simp at hu; subst hu; rfl
  case c3 => unfold maxLen; omega
  case c4 => omega
  case c5 => simp; omega
  intro v' w2 hown' hfrm hmv
  have L0 := hU KO.out.lt
  have he2 : Ext w w2 := hfrm.toExt (he.new _) (fun y hy e => by have := (L0.out _ e).1; omega)
  obtain ⟨hkl, hkd⟩ := List.getElem?_eq_some_iff.1 Hdl.out
  have e2 : ((l.take k).map (leafH n)).flatMap sone ++ [.string x] = ((l.take (k + 1)).map (leafH n)).flatMap sone := by rw [List.take_succ_eq_append_getElem hkl, hkd, HX.out]; simp [sone]
  have O2 := hU (show w2.ownsRow w.heap.size 9 1 v' (k + 1) (((l.take (k + 1)).map (leafH n)).flatMap sone) by rw [← e2, List.map_take]; exact hown')
  clear hown' hfrm hmv L0 hkd e2 KO he
  go_wp2_with fail
  go_roundw
  case rel => exact ⟨k + 1, by omega, by go_num, O2.out, he2⟩
  case measure => simp [intOf]; omega
theorem l09Hashes_any (n : Int) (A : Option Addr) (c : Nat) (l : List EntryD) (w : World) (hr : SlF AnyB EntryD.cells 5 w A l c) (hok : ∀ d ∈ l, d.Ok) (hl : l.length ≤ 1048576) :
 Calls Tryz.prog 178 #[.int .i64 n, .slice A l.length c] w fun e w' => ∃ v, e = .returned v ∧ w'.ownsRow w.heap.size 9 1 v l.length ((l.map (leafH n)).flatMap sone) ∧ Ext w w' := by
 obtain ⟨i0, hi, hz0, hz1, hz2⟩ := info_parts info_string
 have HR := hU hr
 have Hok := hU hok
 have He := hU (Ext.new (Below.refl w.heap.size w) (.cells #[] 9))
 have OE := hU (ownsRow_empty w 9 1)
 clear hr hok
 go_enter Tryz.func178, Tryz.ntmps178
 go_wp2_with fail
 go_loopw [5, 6] (fun v i wr => ∃ k : Nat, k ≤ l.length ∧ i = .int .i64 k ∧ wr.ownsRow w.heap.size 9 1 v k (((l.take k).map (leafH n)).flatMap sone) ∧ Ext w wr) (fun _ i _ => l.length - (intOf i).toNat)
 case atStart => exact ⟨0, Nat.zero_le _, rfl, OE.out, He.out⟩
 case round =>
  clear He
  obtain ⟨k, hk, rfl, hown, he⟩ := hrel
  obtain ⟨V, cv, rfl, hnc⟩ := ownsRow_form hown
  have KO := hU hown; clear hown
  by_cases hlt : k < l.length
  case neg =>
   obtain rfl : k = l.length := by omega
   go_wp2_with fail
   go_ret
   exact ⟨_, rfl, by have := KO.out; rwa [List.take_length] at this, he⟩
  obtain ⟨b, off, rfl, hb, hc⟩ := Reads.at_ (HR.out.ext he).reads (k := k) hlt
  obtain ⟨d, hd⟩ : ∃ d, d = l[k] := ⟨_, rfl⟩
  have hdl : l[k]? = some d := by rw [hd]; exact List.getElem?_eq_getElem hlt
  have hdo := Hok.out d (List.mem_of_getElem? hdl)
  obtain ⟨c0, c1, c2, c3, c4⟩ := entry_at hc hdl
  have HDO := hU hdo; have Hdl := hU hdl
  clear hc hd hdl hdo
  go_wp2_with fail
  refine (specLeafHash_any n d _ HDO.out).mono ?_
  rintro e w1 ⟨rfl, h1⟩
  have h2 : Ext wr w1 := by first | exact h1 | exact Ext.next (Ext.new (Below.refl wr.heap.size wr) _) h1
  replace he := he.next h2; replace KO := hU (ownsRow_ext KO.out h2)
  clear h1 h2 c0 c1 c2 c3 c4
  have hw1 := he.size
  obtain ⟨x, hx⟩ : ∃ x, x = leafH n d := ⟨_, rfl⟩
  rw [← hx]
  have HX := hU hx; clear hx
  go_wp2_with (at_builtin; refine wpList_append_moved _ rfl _ _ 29 rfl w.heap.size 9 i0 _ 1 16 Tryz.underlying29 hi hz0 hz1 hz2 rfl (by decide) _ _ _ rfl (KO.out.alloc _) ⟨w1.heap.size, 0, none⟩ 1 1 [.string x] rfl rfl ?c1 ?c2 ?c3 ?c4 ?c5 ?_)
  case c1 => exact (Blk.new w1 9 #[.string x]).adds
  case c2 => intro u hu; simp at hu; subst hu; rfl
  case c3 => unfold maxLen; omega
  case c4 => omega
  case c5 => simp; omega
  intro v' w2 hown' hfrm hmv
  have L0 := hU KO.out.lt
  have he2 : Ext w w2 := hfrm.toExt (he.new _) (fun y hy e => by have := (L0.out _ e).1; omega)
  obtain ⟨hkl, hkd⟩ := List.getElem?_eq_some_iff.1 Hdl.out
  have e2 : ((l.take k).map (leafH n)).flatMap sone ++ [.string x] = ((l.take (k + 1)).map (leafH n)).flatMap sone := by rw [List.take_succ_eq_append_getElem hkl, hkd, HX.out]; simp [sone]
  have O2 := hU (show w2.ownsRow w.heap.size 9 1 v' (k + 1) (((l.take (k + 1)).map (leafH n)).flatMap sone) by rw [← e2, List.map_take]; exact hown')
  clear hown' hfrm hmv L0 hkd e2 KO he
  go_wp2_with fail
  go_roundw
  case rel => exact ⟨k + 1, by omega, by go_num, O2.out, he2⟩
  case measure => simp [intOf]; omega
theorem receiptHashes_any (n : Int) (A : Option Addr) (c : Nat) (l : List ReceiptD) (w : World) (hr : SlF AnyB ReceiptD.cells 3 w A l c) (hok : ∀ d ∈ l, d.Ok) (hl : l.length ≤ 1048576) :
 Calls Tryz.prog 126 #[.int .i64 n, .slice A l.length c] w fun e w' => ∃ v, e = .returned v ∧ w'.ownsRow w.heap.size 9 1 v l.length ((l.map (recH n)).flatMap sone) ∧ Ext w w' := by
 obtain ⟨i0, hi, hz0, hz1, hz2⟩ := info_parts info_string
 have HR := hU hr
 have Hok := hU hok
 have He := hU (Below.refl w.heap.size w)
 clear hr hok
 go_enter Tryz.func126, Tryz.ntmps126
 go_wp2_with fail
 go_loopw [5, 12] (fun v i wr => ∃ k : Nat, k ≤ l.length ∧ i = .int .i64 k ∧ wr.ownsRow w.heap.size 9 1 v k (((l.take k).map (recH n)).flatMap sone) ∧ Ext w wr) (fun _ i _ => l.length - (intOf i).toNat)
 case atStart => exact ⟨0, Nat.zero_le _, rfl, World.ownsRow_nil _ _ _ _, He.out⟩
 case round =>
  clear He
  obtain ⟨k, hk, rfl, hown, he⟩ := hrel
  obtain ⟨V, cv, rfl, hnc⟩ := ownsRow_form hown
  have KO := hU hown; clear hown
  by_cases hlt : k < l.length
  case neg =>
   obtain rfl : k = l.length := by omega
   go_wp2_with fail
   go_ret
   exact ⟨_, rfl, by have := KO.out; rwa [List.take_length] at this, he⟩
  obtain ⟨b, off, rfl, hb, hc⟩ := Reads.at_ (HR.out.ext he).reads (k := k) hlt
  obtain ⟨d, hd⟩ : ∃ d, d = l[k] := ⟨_, rfl⟩
  have hdl : l[k]? = some d := by rw [hd]; exact List.getElem?_eq_getElem hlt
  have hdo := Hok.out d (List.mem_of_getElem? hdl)
  obtain ⟨c0, c1, c2⟩ := rec_at hc hdl
  have HDO := hU hdo; have Hdl := hU hdl
  clear hc hd hdl hdo
  go_wp2_with fail
  refine (implReceiptHash_any n d _ HDO.out).mono ?_
  rintro e w1 ⟨rfl, h1⟩
  have h2 : Ext wr w1 := by first | exact h1 | exact Ext.next (Ext.new (Below.refl wr.heap.size wr) _) h1
  replace he := he.next h2; replace KO := hU (ownsRow_ext KO.out h2)
  clear h1 h2 c0 c1 c2
  have hw1 := he.size
  obtain ⟨x, hx⟩ : ∃ x, x = recH n d := ⟨_, rfl⟩
  rw [← hx]
  have HX := hU hx; clear hx
  go_wp2_with (at_builtin; refine wpList_append_moved _ rfl _ _ 29 rfl w.heap.size 9 i0 _ 1 16 Tryz.underlying29 hi hz0 hz1 hz2 rfl (by decide) _ _ _ rfl (KO.out.alloc _) ⟨w1.heap.size, 0, none⟩ 1 1 [.string x] rfl rfl ?c1 ?c2 ?c3 ?c4 ?c5 ?_)
  case c1 => exact (Blk.new w1 9 #[.string x]).adds
  case c2 => intro u hu; simp at hu; subst hu; rfl
  case c3 => unfold maxLen; omega
  case c4 => omega
  case c5 => simp; omega
  intro v' w2 hown' hfrm hmv
  have L0 := hU KO.out.lt
  have he2 : Ext w w2 := hfrm.toExt (he.new _) (fun y hy e => by have := (L0.out _ e).1; omega)
  obtain ⟨hkl, hkd⟩ := List.getElem?_eq_some_iff.1 Hdl.out
  have e2 : ((l.take k).map (recH n)).flatMap sone ++ [.string x] = ((l.take (k + 1)).map (recH n)).flatMap sone := by rw [List.take_succ_eq_append_getElem hkl, hkd, HX.out]; simp [sone]
  have O2 := hU (show w2.ownsRow w.heap.size 9 1 v' (k + 1) (((l.take (k + 1)).map (recH n)).flatMap sone) by rw [← e2, List.map_take]; exact hown')
  clear hown' hfrm hmv L0 hkd e2 KO he
  go_wp2_with fail
  go_roundw
  case rel => exact ⟨k + 1, by omega, by go_num, O2.out, he2⟩
  case measure => simp [intOf]; omega
theorem l12Taken_any (n : Int) (A : Option Addr) (c : Nat) (l : List ReceiptD) (w : World) (hr : SlF AnyB ReceiptD.cells 3 w A l c) (hok : ∀ d ∈ l, d.Ok) (hl : l.length ≤ 1048576) :
 Calls Tryz.prog 179 #[.int .i64 n, .slice A l.length c] w fun e w' => ∃ v, e = .returned v ∧ w'.ownsRow w.heap.size 9 1 v l.length ((l.map (recH n)).flatMap sone) ∧ Ext w w' := by
 obtain ⟨i0, hi, hz0, hz1, hz2⟩ := info_parts info_string
 have HR := hU hr
 have Hok := hU hok
 have He := hU (Ext.new (Below.refl w.heap.size w) (.cells #[] 9))
 have OE := hU (ownsRow_empty w 9 1)
 clear hr hok
 go_enter Tryz.func179, Tryz.ntmps179
 go_wp2_with fail
 go_loopw [5, 6] (fun v i wr => ∃ k : Nat, k ≤ l.length ∧ i = .int .i64 k ∧ wr.ownsRow w.heap.size 9 1 v k (((l.take k).map (recH n)).flatMap sone) ∧ Ext w wr) (fun _ i _ => l.length - (intOf i).toNat)
 case atStart => exact ⟨0, Nat.zero_le _, rfl, OE.out, He.out⟩
 case round =>
  clear He
  obtain ⟨k, hk, rfl, hown, he⟩ := hrel
  obtain ⟨V, cv, rfl, hnc⟩ := ownsRow_form hown
  have KO := hU hown; clear hown
  by_cases hlt : k < l.length
  case neg =>
   obtain rfl : k = l.length := by omega
   go_wp2_with fail
   go_ret
   exact ⟨_, rfl, by have := KO.out; rwa [List.take_length] at this, he⟩
  obtain ⟨b, off, rfl, hb, hc⟩ := Reads.at_ (HR.out.ext he).reads (k := k) hlt
  obtain ⟨d, hd⟩ : ∃ d, d = l[k] := ⟨_, rfl⟩
  have hdl : l[k]? = some d := by rw [hd]; exact List.getElem?_eq_getElem hlt
  have hdo := Hok.out d (List.mem_of_getElem? hdl)
  obtain ⟨c0, c1, c2⟩ := rec_at hc hdl
  have HDO := hU hdo; have Hdl := hU hdl
  clear hc hd hdl hdo
  go_wp2_with fail
  refine (specReceiptHash_any n d _ HDO.out).mono ?_
  rintro e w1 ⟨rfl, h1⟩
  have h2 : Ext wr w1 := by first | exact h1 | exact Ext.next (Ext.new (Below.refl wr.heap.size wr) _) h1
  replace he := he.next h2; replace KO := hU (ownsRow_ext KO.out h2)
  clear h1 h2 c0 c1 c2
  have hw1 := he.size
  obtain ⟨x, hx⟩ : ∃ x, x = recH n d := ⟨_, rfl⟩
  rw [← hx]
  have HX := hU hx; clear hx
  go_wp2_with (at_builtin; refine wpList_append_moved _ rfl _ _ 29 rfl w.heap.size 9 i0 _ 1 16 Tryz.underlying29 hi hz0 hz1 hz2 rfl (by decide) _ _ _ rfl (KO.out.alloc _) ⟨w1.heap.size, 0, none⟩ 1 1 [.string x] rfl rfl ?c1 ?c2 ?c3 ?c4 ?c5 ?_)
  case c1 => exact (Blk.new w1 9 #[.string x]).adds
  case c2 => intro u hu; simp at hu; subst hu; rfl
  case c3 => unfold maxLen; omega
  case c4 => omega
  case c5 => simp; omega
  intro v' w2 hown' hfrm hmv
  have L0 := hU KO.out.lt
  have he2 : Ext w w2 := hfrm.toExt (he.new _) (fun y hy e => by have := (L0.out _ e).1; omega)
  obtain ⟨hkl, hkd⟩ := List.getElem?_eq_some_iff.1 Hdl.out
  have e2 : ((l.take k).map (recH n)).flatMap sone ++ [.string x] = ((l.take (k + 1)).map (recH n)).flatMap sone := by rw [List.take_succ_eq_append_getElem hkl, hkd, HX.out]; simp [sone]
  have O2 := hU (show w2.ownsRow w.heap.size 9 1 v' (k + 1) (((l.take (k + 1)).map (recH n)).flatMap sone) by rw [← e2, List.map_take]; exact hown')
  clear hown' hfrm hmv L0 hkd e2 KO he
  go_wp2_with fail
  go_roundw
  case rel => exact ⟨k + 1, by omega, by go_num, O2.out, he2⟩
  case measure => simp [intOf]; omega
end Go.Proofs.YtgeengkdgdjcjaaGreat

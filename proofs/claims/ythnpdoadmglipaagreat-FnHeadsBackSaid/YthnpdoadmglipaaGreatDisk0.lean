/-
  FramesWk; EvidenceOps; EvOf; Disk0: No condition.
-/
import Derived.Test.YthnpdoadmglipaaGreatFramesLaw
import Derived.Test.YthnpdoadmglipaaGreatNest
import Derived.Test.YthnpdoadmglipaaGreatRets
import Derived.Test.YthnpdoadmglipaaGreatLeaf
import Derived.Test.YthnpdoadmglipaaGreatAppSrc
import Derived.Test.YthnpdoadmglipaaGreatBrkNew
import Derived.Test.YthnpdoadmglipaaGreatBunch
namespace Go.Proofs.YthnpdoadmglipaaGreat
set_option maxHeartbeats 4000000
set_option maxRecDepth 100000
set_option linter.unusedSimpArgs false
open Go.RowKit
set_option linter.unusedVariables false
theorem frameOut_fits {T : ByteArray} (h : fits1 T = true) : frameOut T = frameB T := by
 unfold frameOut; unfold fits1 at h; rw [if_pos h]
structure FInv (l : List ByteArray) (k : Nat) : Prop where
 le : k ≤ l.length
 fits : ∀ T ∈ l.take k, fits1 T = true
 small : (framesT (l.take k)).size ≤ 300000
theorem FInv.start (l : List ByteArray) : FInv l 0 := ⟨Nat.zero_le _, by simp, by simp [framesT]; exact Nat.zero_le _⟩
theorem FInv.next {l : List ByteArray} {k : Nat} {T : ByteArray} (h : FInv l k) (hT : l[k]? = some T) (hf : fits1 T = true) (hs : (framesT (l.take k)).size + (frameB T).size ≤ 300000) : FInv l (k + 1) := by
 obtain ⟨hk, he⟩ := List.getElem?_eq_some_iff.1 hT
 refine ⟨hk, fun x hx => ?_, by rw [framesT_next hT, ByteArray.size_append]; exact hs⟩
 rw [List.take_succ_eq_append_getElem hk] at hx
 rcases List.mem_append.1 hx with hx | hx
 · exact h.fits x hx
 · obtain rfl : x = l[k] := by simpa using hx
   rw [he]; exact hf
theorem FInv.done {l : List ByteArray} (h : FInv l l.length) (hl : l.length ≤ 600) : framesOk l = true := by
 obtain ⟨_, h1, h2⟩ := h
 rw [List.take_length] at h1 h2
 exact framesOk_yes hl h1 h2
theorem framesOut_no {l : List ByteArray} (h : framesOk l = false) : framesOut l = ⟨#[]⟩ := by simp [framesOut, h]
theorem framesOut_yes {l : List ByteArray} (h : framesOk l = true) : framesOut l = framesT l := by simp [framesOut, h]
theorem framesOk_long {l : List ByteArray} (h : ¬ l.length ≤ 600) : framesOk l = false := by simp [framesOk, h]
theorem sone_at {l : List ByteArray} {w : World} {b off : Nat} {k : Nat} {d : ByteArray} (hc : ∀ j u, (l.flatMap sone)[k * 1 + j]? = some u → w.cell? ⟨b, off + k * 1 + j, none⟩ = some u) (hd : l[k]? = some d) :
 w.cell? ⟨b, off + k, none⟩ = some (.string d) := by
 have := hc 0 _ (flat_at sone 1 sone_length l k 0 d hd (by omega))
 rwa [Nat.add_zero, Nat.mul_one] at this
theorem specFrames_any (A : Option Addr) (c : Nat) (l : List ByteArray) (w : World) (hr : ReadsL w w.heap.size sone 1 A l) (hl : l.length ≤ 1048576) (hs : ∀ T ∈ l, T.size ≤ maxLen) :
 Calls Tryz.prog 163 #[.slice A l.length c] w fun e w' => e = .returned (.tuple #[.string (framesOut l), .bool (framesOk l)]) ∧ Ext w w' := by
 by_cases h6 : l.length ≤ 600
 case neg =>
  have E := hU (framesOk_long h6)
  go_enter Tryz.func163, Tryz.ntmps163
  go_wp2_with fail
  go_ret2
  exact ⟨by rw [framesOut_no E.out, E.out]; rfl, Below.refl _ _⟩
 have HS := hU hs; clear hs
 have HR := hU hr; clear hr
 obtain ⟨i0, hinf, hz0, hz1, hz2⟩ := info_parts info_u8
 have H0 := hU (ownsRow_empty w 5 1)
 have He := hU (Ext.new (Below.refl w.heap.size w) (.cells #[] 5))
 go_enter Tryz.func163, Tryz.ntmps163
 go_wp2_with fail
 obtain ⟨B, hB⟩ : ∃ B, B = w.heap.size := ⟨_, rfl⟩
 rw [← hB] at H0
 rw [← hB]
 have Hb : w.heap.size ≤ B := by omega
 have HB := hU hB
 clear hB
 go_loopw [4, 5] (fun v x wr => ∃ k : Nat, FInv l k ∧ x = .int .i64 k ∧ OwnB B wr v (framesT (l.take k)).size (intsOf (framesT (l.take k))) ∧ (k = 0 → ∃ a c, v = .slice (some a) 0 c) ∧ Ext w wr) (fun _ x _ => l.length - (intOf x).toNat)
 case atStart => exact ⟨0, FInv.start l, rfl, H0.out, fun _ => ⟨_, _, rfl⟩, He.out⟩
 case round =>
  clear H0 He
  obtain ⟨k, hI, rfl, hown, hz, he⟩ := hrel
  obtain ⟨A', c', rfl, hnc⟩ := ownsRow_form hown
  have KO := hU hown
  have HI := hU hI
  have HZ := hU hz
  have hk := hI.le
  have hsm := hI.small
  clear hown hI hz
  by_cases hlt : k < l.length
  case neg =>
   obtain rfl : k = l.length := by omega
   have E := hU (HI.out.done h6)
   have hown := KO.out
   have hconv : (convert 22 9 (.slice A' (framesT (l.take l.length)).size c')).run Tryz.prog wr = .ok (.string (framesT l)) wr := by
    rw [List.take_length] at hown ⊢
    rcases Nat.eq_zero_or_pos l.length with h0 | h0
    · obtain ⟨a, c2, ha⟩ := HZ.out h0
      obtain rfl := List.eq_nil_of_length_eq_zero h0
      obtain ⟨rfl, _, rfl⟩ : A' = some a ∧ (framesT (List.take ([] : List ByteArray).length [])).size = 0 ∧ c' = c2 := by simpa using ha
      exact string0 _ _ _
    · have hpos : 0 < (framesT l).size := by
       cases l with
       | nil => simp at h0
       | cons T l =>
         have h1 := frameB_size ((framesOk_all E.out).2.1 T (by simp))
         rw [framesT, ByteArray.size_append]; omega
      have := own_string (n := (framesT l).size) (by rw [intsOf_len]) hown hpos (intsOf_rng _)
      rwa [ofInts_intsOf] at this
   have hdk : decide ((l.length : Int) < (l.length : Int)) = false := by simp
   have hconv2 := hconv
   rw [List.take_length] at hconv2
   clear KO hown
   go_wp2_with fail
   go_ret2
   exact ⟨by rw [framesOut_yes E.out, E.out]; rfl, he⟩
  have hdk : decide ((k : Int) < (l.length : Int)) = true := by rw [decide_eq_true_eq]; omega
  obtain ⟨g, off, rfl, hg, hc⟩ := (HR.out.ext he).at_ (k := k) hlt
  obtain ⟨T, hT⟩ : ∃ T, T = l[k] := ⟨_, rfl⟩
  have hTl : l[k]? = some T := by rw [hT]; exact List.getElem?_eq_getElem hlt
  have c0 := sone_at hc hTl
  have HTl := hU hTl
  have HTs := hU (HS.out T (List.mem_of_getElem? hTl))
  clear hc hT hTl
  go_wp2_with fail
  refine (specFrame_any T _ HTs.out).mono ?_
  rintro e w1 ⟨rfl, e1⟩
  have he1 := he.next e1
  have KO1 := hU (ownsRow_ext KO.out e1)
  clear c0 KO he e1
  cases hf : inR T.size 1 1000
  · have E := hU (framesOk_no1 HTl.out (show fits1 T = false from hf))
    go_wp2_with fail
    go_ret2
    exact ⟨by rw [framesOut_no E.out, E.out]; rfl, he1⟩
  rw [frameOut_fits (show fits1 T = true from hf)]
  have hfs := frameB_size (show fits1 T = true from hf)
  obtain ⟨t0, t1⟩ := fits1_le (show fits1 T = true from hf)
  have Hsn := hU (framesT_next HTl.out)
  by_cases hfit : (framesT (l.take k)).size + (frameB T).size ≤ 300000
  case neg =>
   have E := hU (framesOk_no2 HTl.out (by omega))
   have d3 : decide (300000 - ((framesT (l.take k)).size : Int) < ((frameB T).size : Int)) = true := by rw [decide_eq_true_eq]; omega
   go_wp2_with fail
   go_ret2
   exact ⟨by rw [framesOut_no E.out, E.out]; rfl, he1⟩
  have d3 : decide (300000 - ((framesT (l.take k)).size : Int) < ((frameB T).size : Int)) = false := by rw [decide_eq_false_iff_not]; omega
  have HN := hU (HI.out.next HTl.out (show fits1 T = true from hf) hfit)
  obtain ⟨cap, w2, hrun, e2, hcell⟩ := to_bytes (P := Tryz.prog) (frameB T) Tryz.underlying9 Tryz.underlying22 Tryz.underlying5 w1
  have he2 := he1.next e2
  have KO2 := hU (ownsRow_ext KO1.out e2)
  obtain ⟨F, hF⟩ : ∃ F, F = frameB T := ⟨_, rfl⟩
  obtain ⟨G, hG⟩ : ∃ G, G = framesT (l.take k) := ⟨_, rfl⟩
  have Hn : Hid (bvals (intsOf G) ++ bvals (intsOf F) = bvals (intsOf (framesT (l.take (k + 1)))) ∧ (framesT (l.take (k + 1))).size = G.size + F.size) := hU (by rw [hF, hG, ← bvals_append, ← intsOf_append, Hsn.out, ByteArray.size_append]; exact ⟨rfl, rfl⟩)
  rw [← hF] at hrun hcell hfs hfit d3
  have hFs : F.size ≤ 1006 := by omega
  rw [← hG] at KO2 hsm hfit d3
  rw [← hF]
  try rw [← hG]
  have hnews : Hid (∀ j u, (bvals (intsOf F))[j]? = some u → w2.cell? ((⟨w1.heap.size, 0, none⟩ : Addr).add j) = some u) := hU (by
   intro j u hu
   have hj : j < F.size := by
    have := (List.getElem?_eq_some_iff.1 hu).1
    rwa [bvals_len, intsOf_len] at this
   rw [intsOf_get hj] at hu
   rw [add_mk, Nat.zero_add, hcell j hj, hu])
  have hB2 : B ≤ w2.heap.size := by have := he2.size; have := HB.out; omega
  clear hF hG he1 KO1 e2 hcell Hsn hfs
  go_wp2_with (at_builtin; refine wpList_append_own _ rfl _ _ 22 rfl B 5 i0 (.int .u8 0) 1 1 Tryz.underlying22 hinf hz0 hz1 hz2 rfl (by decide) _ _ _ rfl KO2.out ⟨w1.heap.size, 0, none⟩ F.size cap (bvals (intsOf F)) rfl ?c0 ?c1 ?c2 ?c3 ?c4 ?c5 ?_)
  case c0 => rw [bvals_len, intsOf_len, Nat.mul_one]
  case c1 => exact hnews.out
  case c2 => exact bvals_one _
  case c3 => unfold maxLen; omega
  case c4 => omega
  case c5 => exact hB2
  intro v' w3 hown' hgrow _
  have he3 := Ext.ownGrown he2 KO2.out hgrow Hb
  rw [Hn.out.1] at hown'
  have KO' := hU (show OwnB B w3 v' (framesT (l.take (k + 1))).size (intsOf (framesT (l.take (k + 1)))) from by rw [Hn.out.2]; exact hown')
  clear hown' hgrow KO2 he2 hnews hrun
  go_wp2_with fail
  go_roundw
  case rel => exact ⟨k + 1, HN.out, by go_num, KO'.out, fun h => absurd h (by omega), he3⟩
  case measure => simp [intOf]; omega

theorem three_blks (w : World) (x2 x3 x4 : Array Value) (t2 t3 t4 : TypeId) :
 Blk (((w.alloc (.cells x2 t2)).alloc (.cells x3 t3)).alloc (.cells x4 t4)) w.heap.size t2 x2 ∧ Blk (((w.alloc (.cells x2 t2)).alloc (.cells x3 t3)).alloc (.cells x4 t4)) (w.heap.size + 1) t3 x3 ∧ Blk (((w.alloc (.cells x2 t2)).alloc (.cells x3 t3)).alloc (.cells x4 t4)) (w.heap.size + 1 + 1) t4 x4 ∧ Ext w (((w.alloc (.cells x2 t2)).alloc (.cells x3 t3)).alloc (.cells x4 t4)) := by
 obtain ⟨h2, h3, he⟩ := two_blks w x2 x3 t2 t3
 have h4 : ((w.alloc (.cells x2 t2)).alloc (.cells x3 t3)).heap.size = w.heap.size + 1 + 1 := by simp
 refine ⟨h2.alloc _, h3.alloc _, ?_, Ext.new he _⟩
 have := Blk.new ((w.alloc (.cells x2 t2)).alloc (.cells x3 t3)) t4 x4; rwa [h4] at this
theorem info_string : (Tryz.prog.info? 9).map (fun i => (i.zero, i.size, i.bytes)) = some (some (.string ⟨#[]⟩), 1, 16) := by kernel_rfl
end Go.Proofs.YthnpdoadmglipaaGreat

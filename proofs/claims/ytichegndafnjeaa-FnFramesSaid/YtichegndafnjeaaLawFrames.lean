/-
  Drawn records come back from their frames; of frames that are cut anywhere those that are whole do, and no other one. No condition.
-/
import Derived.Test.YtichegndafnjeaaRows
import Derived.Test.YtichegndafnjeaaFacts
import Derived.Test.YtichegndafnjeaaFramesDr2
import Derived.Test.YtichegndafnjeaaBig
namespace Go.Proofs.Ytichegndafnjeaa
open Go.RowKit Go.WideShapes Go.ChangeAt
set_option linter.unusedVariables false

theorem svals_flat (l : List ByteArray) : svals l = l.flatMap sone := by
  induction l with
  | nil => rfl
  | cons a l ih => rw [List.flatMap_cons, ← ih]; rfl
theorem Reads.take_ {w : World} {B : Nat} {A : Option Addr} {l : List ByteArray} (h : ReadsL w B sone 1 A l) (m : Nat) : ReadsL w B sone 1 A (l.take m) := by
  refine ⟨flat_len sone 1 sone_length _, fun hn => ?_⟩
  have hm : 0 < l.length := by rw [List.length_take] at hn; omega
  obtain ⟨b, off, e, hb, hc⟩ := h.2 hm
  refine ⟨b, off, e, hb, fun j u hj => hc j u ?_⟩
  rw [← svals_flat] at hj ⊢
  simp only [svals, List.map_take] at hj ⊢
  rw [List.getElem?_take] at hj
  split at hj
  · exact hj
  · cases hj
def three : List ByteArray := [⟨#[111, 110, 101]⟩, ⟨#[116, 119, 111]⟩, ⟨#[116, 104, 114, 101, 101]⟩]
theorem three_ok : framesOk three = true := by
  refine framesOk_yes (by decide) (by decide) ?_
  have h1 := frameB_size (T := ⟨#[111, 110, 101]⟩) (by decide)
  have h2 := frameB_size (T := ⟨#[116, 119, 111]⟩) (by decide)
  have h3 := frameB_size (T := ⟨#[116, 104, 114, 101, 101]⟩) (by decide)
  have e1 : (⟨#[111, 110, 101]⟩ : ByteArray).size = 3 := rfl
  have e2 : (⟨#[116, 119, 111]⟩ : ByteArray).size = 3 := rfl
  have e3 : (⟨#[116, 104, 114, 101, 101]⟩ : ByteArray).size = 5 := rfl
  have e4 : (⟨#[]⟩ : ByteArray).size = 0 := rfl
  simp only [three, framesT, ByteArray.size_append]
  omega
set_option maxHeartbeats 2000000 in
set_option maxRecDepth 100000 in
theorem lawFrames_walk (A : Option Addr) (c : Nat) (l : List Int) (w : World) (hlen : l.length ≤ maxLen) (hin : ∀ x ∈ l, ByteIn x) (hr : ReadsL w w.heap.size byteC 1 A l) :
    Calls Try.prog 5 #[.slice A l.length c] w fun e w' => e = .returned (.bool true) ∧ Ext w w' := by
  by_cases hb : 1048576 < l.length
  · have hd : decide (1048576 < l.length) = true := decide_eq_true hb
    go_enter Try.func5, Try.ntmps5
    go_wp2_with (go_at_call 7; refine (big_any _ _ _ _ hlen).mono ?_; rintro e w' ⟨rfl, rfl⟩; rw [hd])
    go_ret
    exact ⟨rfl, Below.refl _ _⟩
  have hd : decide (1048576 < l.length) = false := decide_eq_false hb
  have Hr := Lib.hid hr; clear hr
  have Hin := Lib.hid hin; clear hin
  go_enter Try.func5, Try.ntmps5
  go_wp2_with (go_at_call 7; refine (big_any _ _ _ _ hlen).mono ?_; rintro e w' ⟨rfl, rfl⟩; rw [hd])
  refine (DrawFrames_any A c l _ hlen Hin.out Hr.out).mono ?_
  rintro e w1 ⟨v, L, rfl, hL, hLs, hO, he⟩
  have HE := Lib.hid he
  obtain ⟨V, cv, rfl, hs⟩ := slf_own hO
  have HS := Lib.hid hs
  have HLs := Lib.hid (show ∀ T ∈ L, T.size ≤ maxLen from fun T hT => by have := hLs T hT; unfold maxLen; omega)
  clear hs hO hLs he
  go_wp2_with fail
  refine (specFrames_any V cv L _ HS.out.reads (by omega) HLs.out).mono ?_
  rintro e w2 ⟨rfl, h1⟩
  replace HE := Lib.hid (HE.out.next h1); replace HS := Lib.hid (HS.out.ext h1); clear h1
  go_upto_if 26 with fail
  go_cut [3, 4, 5] (fun y f _ wx => ∃ (L : List ByteArray) (V : Option Addr) (cv : Nat), y = .slice V L.length cv ∧ f = .string (framesT L) ∧ framesOk L = true ∧ L.length ≤ cv ∧ (∀ T ∈ L, T.size ≤ maxLen) ∧ ReadsL wx wx.heap.size sone 1 V L ∧ Ext w wx)
  case first =>
    cases hok : framesOk L
    case true =>
      rw [framesOut_yes hok]
      go_wp2_with fail
      go_meet
      case rel => exact ⟨L, V, cv, rfl, rfl, hok, HS.out.le, HLs.out, HS.out.reads, HE.out⟩
    go_wp2_with fail
    have hb3 := Blk.readsL (l := three) sone_length (Blk.new w2 9 #[.string ⟨#[111, 110, 101]⟩, .string ⟨#[116, 119, 111]⟩, .string ⟨#[116, 104, 114, 101, 101]⟩])
    have hx := Ext.new HE.out (.cells #[.string ⟨#[111, 110, 101]⟩, .string ⟨#[116, 119, 111]⟩, .string ⟨#[116, 104, 114, 101, 101]⟩] 9)
    have h3s : ∀ T ∈ three, T.size ≤ maxLen := by decide +kernel
    refine (specFrames_any (some ⟨w2.heap.size, 0, none⟩) 3 three _ hb3 (by decide) h3s).mono ?_
    rintro e w3 ⟨rfl, h1⟩
    rw [framesOut_yes three_ok, three_ok]
    go_wp2_with fail
    go_meet
    case rel => exact ⟨three, _, 3, rfl, rfl, three_ok, Nat.le_refl _, h3s, ReadsL.ext hb3 h1, hx.next h1⟩
  case rest =>
  clear HS HE HLs hL
  obtain ⟨L, V, cv, rfl, rfl, hok, hLc, hLs, hs, he⟩ := hcut
  have HS := Lib.hid hs; have HE := Lib.hid he; have HLs := Lib.hid hLs
  obtain ⟨hL6, hLf, hT3⟩ := framesOk_all hok
  have HOK := Lib.hid hok; have HLf := Lib.hid hLf
  clear hs he hLs hok hLf
  go_wp2_with fail
  refine (implFrames_any V cv L _ HS.out (by omega) HLs.out).mono ?_
  rintro e w4 ⟨rfl, h1⟩
  rw [framesOut_yes HOK.out, HOK.out]
  replace HE := Lib.hid (HE.out.next h1); replace HS := Lib.hid (ReadsL.ext HS.out h1); clear h1
  have UW := Lib.hid (unf_whole HOK.out)
  have UC := Lib.hid (fun k hk => unf_of_cut HOK.out (k := k) hk)
  have TL := Lib.hid (show framesT (L.take L.length) = framesT L by rw [List.take_length])
  obtain ⟨T, hT⟩ : ∃ T, T = framesT L := ⟨_, rfl⟩
  rw [← hT] at UW UC TL hT3
  rw [← hT]
  clear hT
  go_wp2_with fail
  refine (implUnframe_any T _ (by omega)).mono ?_
  rintro e w5 ⟨v, rfl, ho, h1⟩
  rw [UW.out] at ho
  rw [UW.out]
  replace HE := Lib.hid (HE.out.next h1); replace HS := Lib.hid (ReadsL.ext HS.out h1); clear h1
  have ho2 : w5.ownsRow w4.heap.size 9 1 v L.length (L.flatMap sone) := by
    have := ho
    unfold OwnS at this
    rwa [svals_flat] at this
  obtain ⟨Z, cz, rfl, sz⟩ := slf_own ho2
  have HZ := Lib.hid sz.reads
  have n1 : (T.toList != T.toList) = false := by simp
  have n2 : ((T.size : Int) != (T.size : Int)) = false := by simp
  clear ho ho2 sz
  go_wp2_with fail
  refine (sameTexts_same Z V cz cv L _ HZ.out HS.out (by omega)).mono ?_
  rintro e w6 ⟨rfl, h1⟩
  replace HE := Lib.hid (HE.out.next h1); replace HS := Lib.hid (ReadsL.ext HS.out h1); clear h1 HZ
  go_wp2_with fail
  have HR6 := Lib.hid (ReadsL.ext Hr.out HE.out)
  refine (DrawPlaces_any A c l _ hlen Hin.out HR6.out).mono ?_
  rintro e w7 ⟨v, P, rfl, hP, hPx, hO, h1⟩
  replace HE := Lib.hid (HE.out.next h1); replace HS := Lib.hid (ReadsL.ext HS.out h1); clear h1 HR6
  obtain ⟨U, cu, rfl, su⟩ := slf_own hO
  have hp3 : 3 < P.length := by omega
  obtain ⟨b, off, rfl, hb2, hc⟩ := Reads.at_ su.reads (k := 3) hp3
  obtain ⟨x, hx⟩ : ∃ x, x = P[3] := ⟨_, rfl⟩
  have hx2 := hPx _ (List.getElem_mem hp3)
  have c0 := hc 0 _ (flat_at icell 1 icell_length P 3 0 _ (List.getElem?_eq_getElem hp3) (by omega))
  rw [← hx] at hx2 c0
  replace c0 : w7.cell? ⟨b, off + 3, none⟩ = some (.int .i64 x) := c0
  obtain ⟨k, hk⟩ : ∃ k : Nat, x % ((T.size : Int) + 1) = (k : Int) := ⟨(x % ((T.size : Int) + 1)).toNat, by rw [Int.toNat_of_nonneg (Int.emod_nonneg _ (by omega))]⟩
  have hkT : k ≤ T.size := by
    have := Int.emod_lt_of_pos x (show 0 < (T.size : Int) + 1 by omega)
    omega
  obtain ⟨hx0, hx1⟩ := hx2
  rw [hP]
  clear hx hc hb2 hPx hO su hp3
  go_wp2_with fail
  obtain ⟨m, hm, hu, hmk, hnx⟩ := UC.out k hkT
  have hlm : (L.take m).length = m := by rw [List.length_take]; omega
  refine (implUnframe_any (T.extract 0 k) _ (by rw [ByteArray.size_extract]; omega)).mono ?_
  rintro e w8 ⟨v, rfl, ho, h1⟩
  rw [hu] at ho
  rw [hu]
  replace HE := Lib.hid (HE.out.next h1); replace HS := Lib.hid (ReadsL.ext HS.out h1); clear h1 c0 hu UC
  have ho2 : w8.ownsRow w7.heap.size 9 1 v (L.take m).length ((L.take m).flatMap sone) := by
    have := ho
    unfold OwnS at this
    rwa [svals_flat] at this
  obtain ⟨Z2, cz2, rfl, sz⟩ := slf_own ho2
  have ST := sameTexts_same Z2 V cz2 cv (L.take m) w8 sz.reads (Reads.take_ HS.out m) (by omega)
  rw [hlm] at ST
  rw [hlm]
  have HST := Lib.hid ST
  have HNX := Lib.hid hnx
  have HTM := Lib.hid (show m = L.length → framesT (L.take m) = T from fun h => by rw [h]; exact TL.out)
  obtain ⟨p, hp⟩ : ∃ p, p = (framesT (L.take m)).size := ⟨_, rfl⟩
  have hpT : m = L.length → p = T.size := fun h => by rw [hp, HTM.out h]
  rw [← hp] at hmk
  have HN2 := Lib.hid (show ∀ (h : m < L.length), k < p + (frameB L[m]).size from fun h => by rw [hp]; exact HNX.out h)
  rw [← hp]
  have HPT := Lib.hid hpT
  clear ho ho2 sz ST hnx HNX HTM hp hpT hlm
  have q1 : decide ((k : Int) < (p : Int)) = false := by rw [decide_eq_false_iff_not]; omega
  have q2 : decide ((L.length : Int) < (m : Int)) = false := by rw [decide_eq_false_iff_not]; omega
  go_wp2_with fail
  refine HST.out.mono ?_
  rintro e w9 ⟨rfl, h1⟩
  replace HE := Lib.hid (HE.out.next h1); replace HS := Lib.hid (ReadsL.ext HS.out h1); clear h1 HST
  by_cases hml : m = L.length
  case pos =>
    have hpT := HPT.out hml
    have q3 : decide ((m : Int) = (L.length : Int)) = true := by rw [decide_eq_true_eq]; omega
    have q4 : ((m : Int) == (L.length : Int)) = true := by rw [beq_iff_eq]; omega
    have q5 : ((p : Int) == (T.size : Int)) = true := by rw [beq_iff_eq]; omega
    have q6 : decide ((p : Int) = (T.size : Int)) = true := by rw [decide_eq_true_eq]; omega
    clear hml hpT HPT HN2
    go_wp2_with fail
    go_ret
    exact ⟨rfl, HE.out⟩
  have hlt : m < L.length := by omega
  have q3 : decide ((m : Int) = (L.length : Int)) = false := by rw [decide_eq_false_iff_not]; omega
  have q4 : ((m : Int) == (L.length : Int)) = false := by rw [beq_eq_false_iff_ne]; omega
  obtain ⟨b3, off3, rfl, hb3, hc⟩ := Reads.at_ HS.out (k := m) hlt
  obtain ⟨y, hy⟩ : ∃ y, y = L[m] := ⟨_, rfl⟩
  have hyl : L[m]? = some y := by rw [hy]; exact List.getElem?_eq_getElem hlt
  have c1 := sone_at hc hyl
  have hyf := HLf.out y (List.mem_of_getElem? hyl)
  have hys := HLs.out y (List.mem_of_getElem? hyl)
  have hn2 := HN2.out hlt
  rw [← hy] at hn2
  have hw : IntKind.i64.wrap (m : Int) = (m : Int) := IntWalk.i64_in _ (by omega)
  have HYF := Lib.hid hyf; have HYS := Lib.hid hys
  have hfs := frameB_size hyf
  obtain ⟨y0, y1⟩ := fits1_le hyf
  clear hc hb3 hy hyl hyf hys HN2 HPT hml
  obtain ⟨F, hF⟩ : ∃ F, F = frameB y := ⟨_, rfl⟩
  have HF := Lib.hid hF
  rw [← hF] at hn2 hfs
  have hFs : F.size ≤ 1006 := by omega
  clear hF hfs y0 y1
  have q7 : decide ((k : Int) < (p : Int) + (F.size : Int)) = true := by rw [decide_eq_true_eq]; omega
  go_wp2_with fail
  refine (implFrame_any y _ HYS.out).mono ?_
  rintro e w10 ⟨rfl, h1⟩
  rw [frameOut_fits HYF.out, HYF.out, ← HF.out]
  replace HE := Lib.hid (HE.out.next h1)
  clear h1 c1
  go_wp2_with fail
  go_ret
  exact ⟨rfl, HE.out⟩

set_option maxRecDepth 100000 in
theorem Frames_holds : Rows.FnFramesSaid :=
  lawOver (p := Try.pinned) (c := Rows.fnFramesRow) (s := Rows.fnFramesSpec) 5 Try.f5 4
    own laidOut (by kernel_rfl) (by kernel_rfl) rfl rfl Try.underlying4
    (fun H ds h => by match ds, h with | [d0], _ => rfl)
    rfl rfl rfl rfl rfl rfl rfl ⟨rfl, rfl, rfl, rfl, rfl⟩ rfl rfl rfl rfl rfl (by kernel_rfl) Try.func5 (by kernel_rfl)
    (of_decide_eq_true (by kernel_rfl)) (by unfold Func.isWrapper; rw [if_neg (of_decide_eq_false (by kernel_rfl))]; exact ⟨rfl, rfl⟩)
    rfl rfl (fun _ _ => rfl) rfl rfl rfl rfl
    (fun os started H enc => ChangeSpec.witness6 (enc := enc) (C := Try.checked) false ⟨#[], #[.slice none 0 0], []⟩ 20 (by kernel_rfl) (by kernel_rfl) (by kernel_rfl) (by kernel_rfl))
    (fun W args h => by
      have hs := h.size
      obtain ⟨l⟩ := args
      match l, hs with
      | [v0], _ =>
        obtain ⟨base0, n0, o0, t0⟩ := h.arg 0 22 v0 rfl rfl
        obtain ⟨A0, l0, c0, rfl⟩ := okWide_slice Try.underlying22 o0
        obtain ⟨B0, d0, a, e0, x0, y0, r0, k0⟩ := typed_slice byteC ByteIn 1 Try.underlying22 (by kernel_rfl) (by decide) (fun _ => rfl) (fun m es h => byte_typed h) t0
        obtain ⟨rfl, rfl, rfl⟩ : A0 = B0 ∧ l0 = a.length ∧ c0 = d0 := by simpa [Value.cells] using e0
        exact lawFrames_walk A0 c0 a W (Nat.le_trans x0 y0) k0 r0)
#print axioms Frames_holds
end Go.Proofs.Ytichegndafnjeaa

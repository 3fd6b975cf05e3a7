/-
  Drawn records, drawn places, two lists of texts that are the same: walks. No condition.
-/
import Derived.Test.YtichegndafnjeaaFramesWk
import Derived.Test.YtichegndafnjeaaDraw4
namespace Go.Proofs.Ytichegndafnjeaa
open Go.RowKit
set_option linter.unusedVariables false

def lenV : Value → Nat
  | .slice _ n _ => n
  | _ => 0
theorem info_str2 : (Try.prog.info? 9).map (fun i => (i.zero, i.size, i.bytes)) = some (some (.string ⟨#[]⟩), 1, 16) := by kernel_rfl
theorem info_int2 : (Try.prog.info? 3).map (fun i => (i.zero, i.size, i.bytes)) = some (some (.int .i64 0), 1, 8) := by kernel_rfl
def icell (x : Int) : List Value := [.int .i64 x]
theorem icell_length (x : Int) : (icell x).length = 1 := rfl
set_option maxHeartbeats 2000000 in
set_option maxRecDepth 100000 in
theorem sameTexts_same (A A' : Option Addr) (c c' : Nat) (l : List ByteArray) (w : World) (hr : ReadsL w w.heap.size sone 1 A l) (hr' : ReadsL w w.heap.size sone 1 A' l) (hl : l.length ≤ 1048576) :
    Calls Try.prog 13 #[.slice A l.length c, .slice A' l.length c'] w fun e w' => e = .returned (.bool true) ∧ Ext w w' := by
  have d0 : ((l.length : Int) != (l.length : Int)) = false := by simp
  have d00 : decide ((l.length : Int) ≠ (l.length : Int)) = false := by simp
  go_enter Try.func13, Try.ntmps13
  go_wp2_with fail
  go_loopw [5] (fun i wr => ∃ k : Nat, k ≤ l.length ∧ i = .int .i64 (k : Int) ∧ Ext w wr) (fun i _ => l.length - (intOf i).toNat)
  case atStart => exact ⟨0, Nat.zero_le _, rfl, Below.refl _ _⟩
  case round =>
    obtain ⟨k, hk, rfl, he⟩ := hrel
    by_cases hlt : k < l.length
    case neg =>
      obtain rfl : k = l.length := by omega
      have d1 : decide ((l.length : Int) < (l.length : Int)) = false := by simp
      go_wp2_with fail
      go_ret
      exact ⟨rfl, he⟩
    have d1 : decide ((k : Int) < (l.length : Int)) = true := by rw [decide_eq_true_eq]; omega
    obtain ⟨b, off, rfl, hb, hc⟩ := Reads.at_ (ReadsL.ext hr he) (k := k) hlt
    obtain ⟨b', off', rfl, hb', hc'⟩ := Reads.at_ (ReadsL.ext hr' he) (k := k) hlt
    obtain ⟨T, hT⟩ : ∃ T, T = l[k] := ⟨_, rfl⟩
    have hTl : l[k]? = some T := by rw [hT]; exact List.getElem?_eq_getElem hlt
    have c0 := sone_at hc hTl
    have c1 := sone_at hc' hTl
    have c2 : wr.cell? ⟨b, off + k * 1, none⟩ = some (.string T) := by rw [Nat.mul_one]; exact c0
    have c3 : wr.cell? ⟨b', off' + k * 1, none⟩ = some (.string T) := by rw [Nat.mul_one]; exact c1
    have hw : IntKind.i64.wrap (k : Int) = (k : Int) := IntWalk.i64_in _ (by omega)
    have p0 : (0 : Int) ≤ (k : Int) := by omega
    have p1 : (k : Int) < (l.length : Int) := by omega
    have n1 : (T.toList != T.toList) = false := by simp
    have n2 : (T.toList == T.toList) = true := by simp
    clear hc hc' hT hTl
    go_wp2_with fail
    go_quiet (fail)
    go_wp2_with fail
    go_roundw
    case rel => exact ⟨k + 1, by omega, by go_num, he.drewN _⟩
    case measure => simp [intOf]; omega
set_option maxHeartbeats 4000000 in
set_option maxRecDepth 100000 in
theorem l08Texts_any (B g : Nat) (A : Option Addr) (c : Nat) (l : List Int) (w : World) (hC : CurAt w B g A c l) :
    Calls Try.prog 67 #[.pointer (some ⟨g, 0, none⟩)] w fun e w' => ∃ (v : Value) (L : List ByteArray), e = .returned v ∧ L.length ≤ 6 ∧ (∀ T ∈ L, T.size ≤ 1001) ∧ OwnF sone 1 9 w w' v L ∧ CurAt w' B g A c l ∧ ExtBut g w w' := by
  obtain ⟨i0, hi, hz0, hz1, hz2⟩ := info_parts info_str2
  have H0 := Lib.hid (ownsRow_empty w 9 1)
  have H1 := Lib.hid (hC.alloc (.cells #[] 9))
  have HE := Lib.hid ((ExtBut.refl g w).alloc (.cells #[] 9))
  have hg := hC.lt
  clear hC
  go_enter Try.func67, Try.ntmps67
  go_wp2_with fail
  obtain ⟨K, hK⟩ : ∃ K, K = w.heap.size := ⟨_, rfl⟩
  have HK := Lib.hid hK
  rw [← hK] at H0 hg
  rw [← hK]
  clear hK
  go_loopw [3, 4] (fun v i wr => ∃ (k : Nat) (L : List ByteArray), k ≤ 5 ∧ i = .int .i64 (k : Int) ∧ L.length = k ∧ (∀ T ∈ L, T.size ≤ 1001) ∧ wr.ownsRow K 9 1 v L.length (L.flatMap sone) ∧ CurAt wr B g A c l ∧ ExtBut g w wr) (fun _ i _ => 6 - (intOf i).toNat)
  case atStart => exact ⟨0, [], by omega, rfl, rfl, by simp, H0.out, H1.out, HE.out⟩
  case round =>
    clear H0 H1 HE
    obtain ⟨k, L, hk, rfl, hlk, hLs, hown, hcur, he⟩ := hrel
    subst hlk
    obtain ⟨V, cv, rfl, hnc⟩ := ownsRow_form hown
    have KO := Lib.hid hown; have HL := Lib.hid hLs; have HX := Lib.hid he
    clear hown hLs he
    go_wp2_with fail
    refine (l01Below_any B g A c l 6 _ (by decide) (by decide) hcur).mono ?_
    rintro e w1 ⟨x, ⟨hx0, hx1⟩, rfl, C1, k1⟩
    replace KO := Lib.hid (ownsRow_but KO.out k1 hg); replace HX := Lib.hid (HX.out.next k1)
    clear hcur k1
    by_cases hlt : (L.length : Int) < x
    case pos =>
      have d1 : decide ((L.length : Int) < x) = true := decide_eq_true hlt
      go_wp2_with fail
      refine (l01Below_any B g A c l 20 _ (by decide) (by decide) C1).mono ?_
      rintro e w2 ⟨y, ⟨hy0, hy1⟩, rfl, C2, k1⟩
      replace KO := Lib.hid (ownsRow_but KO.out k1 hg); replace HX := Lib.hid (HX.out.next k1)
      clear C1 k1
      obtain ⟨m, hm⟩ : ∃ m : Nat, 1 + y = (m : Int) := ⟨(1 + y).toNat, by omega⟩
      have hm1 : m ≤ 20 := by omega
      go_wp2_with fail
      clear hm hy0 hy1
      refine (l01Text_any B g A c l m _ (by omega) C2).mono ?_
      rintro e w3 ⟨s, hs, rfl, C3, k1⟩
      replace KO := Lib.hid (ownsRow_but KO.out k1 hg); replace HX := Lib.hid (HX.out.next k1)
      have Hs := Lib.hid hs
      clear C2 k1 hs
      have hK1 : K ≤ w3.heap.size := by have := HX.out.size; have := HK.out; omega
      have HC := Lib.hid C3; clear C3
      go_wp2_with (at_builtin; refine wpList_append_own _ rfl _ _ 24 rfl K 9 i0 (.string ⟨#[]⟩) 1 16 Try.underlying24 hi hz0 hz1 hz2 rfl (by decide) _ _ _ rfl (KO.out.alloc _) ⟨w3.heap.size, 0, none⟩ 1 1 [.string s] rfl rfl ?c1 ?c2 ?c3 ?c4 ?c5 ?_)
      case c1 => exact one_at _ _ _
      case c2 => exact one_cell rfl
      case c3 => unfold maxLen; omega
      case c4 => omega
      case c5 => simp; omega
      intro v' w4 hown' hgrow _
      have hx2 := (HX.out.alloc (.cells #[.string s] 9)).ownGrown (by have := HK.out; omega) (KO.out.alloc _) hgrow
      have hc2 := (HC.out.alloc (.cells #[.string s] 9)).ownGrown hg (by simp; omega) (KO.out.alloc _) hgrow
      have KO' := Lib.hid (show w4.ownsRow K 9 1 v' (L ++ [s]).length ((L ++ [s]).flatMap sone) from by rw [List.length_append, List.flatMap_append]; exact hown')
      have HL' := Lib.hid (show ∀ T ∈ L ++ [s], T.size ≤ 1001 from fun T hT => by
        rcases List.mem_append.1 hT with hT | hT
        · exact HL.out T hT
        · obtain rfl := List.mem_singleton.1 hT; have := Hs.out; omega)
      obtain ⟨V', cv', rfl, _⟩ := ownsRow_form KO'.out
      clear hown' hgrow KO HX HC
      go_wp2_with fail
      go_roundw
      case rel => exact ⟨L.length + 1, L ++ [s], by omega, by go_num, by simp, HL'.out, KO'.out, hc2, hx2⟩
      case measure => simp [intOf]; omega
    have d1 : decide ((L.length : Int) < x) = false := decide_eq_false hlt
    clear hx0 hx1 hlt
    go_wp2_with fail
    refine (l01Below_any B g A c l 40 _ (by decide) (by decide) C1).mono ?_
    rintro e w2 ⟨y, ⟨hy0, hy1⟩, rfl, C2, k1⟩
    replace KO := Lib.hid (ownsRow_but KO.out k1 hg); replace HX := Lib.hid (HX.out.next k1)
    clear C1 k1
    have hK1 : K ≤ w2.heap.size := by have := HX.out.size; have := HK.out; omega
    have HC := Lib.hid C2; clear C2
    by_cases y0 : y = 0
    case pos =>
      subst y0
      go_wp2_with (at_builtin; refine wpList_append_own _ rfl _ _ 24 rfl K 9 i0 (.string ⟨#[]⟩) 1 16 Try.underlying24 hi hz0 hz1 hz2 rfl (by decide) _ _ _ rfl (KO.out.alloc _) ⟨w2.heap.size, 0, none⟩ 1 1 [.string ⟨#[]⟩] rfl rfl ?d1 ?d2 ?d3 ?d4 ?d5 ?_)
      case d1 => exact one_at _ _ _
      case d2 => exact one_cell rfl
      case d3 => unfold maxLen; omega
      case d4 => omega
      case d5 => simp; omega
      intro v' w4 hown' hgrow _
      have hx2 := (HX.out.alloc (.cells #[.string ⟨#[]⟩] 9)).ownGrown (by have := HK.out; omega) (KO.out.alloc _) hgrow
      have hc2 := (HC.out.alloc (.cells #[.string ⟨#[]⟩] 9)).ownGrown hg (by simp; omega) (KO.out.alloc _) hgrow
      have KO' := Lib.hid (show w4.ownsRow K 9 1 v' (L ++ [(⟨#[]⟩ : ByteArray)]).length ((L ++ [(⟨#[]⟩ : ByteArray)]).flatMap sone) from by rw [List.length_append, List.flatMap_append]; exact hown')
      have HL' := Lib.hid (show ∀ T ∈ L ++ [(⟨#[]⟩ : ByteArray)], T.size ≤ 1001 from fun T hT => by
        rcases List.mem_append.1 hT with hT | hT
        · exact HL.out T hT
        · obtain rfl := List.mem_singleton.1 hT; exact Nat.zero_le _)
      clear hown' hgrow KO HX HC
      go_wp2_with fail
      go_ret
      exact ⟨_, L ++ [⟨#[]⟩], rfl, by simp; omega, HL'.out, by unfold OwnF; rw [← HK.out]; exact KO'.out, hc2, hx2⟩
    have e0 : (y == 0) = false := by rw [beq_eq_false_iff_ne]; exact y0
    have e0' : decide (y = 0) = false := decide_eq_false y0
    by_cases y1 : y = 1
    case pos =>
      subst y1
      go_wp2_with fail
      refine (l01Below_any B g A c l 2 _ (by decide) (by decide) HC.out).mono ?_
      rintro e w3 ⟨z, ⟨hz0', hz1'⟩, rfl, C3, k1⟩
      replace KO := Lib.hid (ownsRow_but KO.out k1 hg); replace HX := Lib.hid (HX.out.next k1)
      clear HC k1
      obtain ⟨m, hm⟩ : ∃ m : Nat, 1000 + z = (m : Int) := ⟨(1000 + z).toNat, by omega⟩
      have hm1 : m ≤ 1001 := by omega
      go_wp2_with fail
      clear hm hz0' hz1'
      refine (l01Long_any m 33 _ (by omega) (by decide)).mono ?_
      rintro e w4 ⟨s, hs, rfl, k1⟩
      replace KO := Lib.hid (ownsRow_ext KO.out k1); replace HX := Lib.hid (HX.out.next (ExtBut.of_ext k1))
      have HC := Lib.hid (C3.ext k1)
      have Hs := Lib.hid hs
      have hK2 : K ≤ w4.heap.size := by have := HX.out.size; have := HK.out; omega
      clear C3 k1 hs
      go_wp2_with (at_builtin; refine wpList_append_own _ rfl _ _ 24 rfl K 9 i0 (.string ⟨#[]⟩) 1 16 Try.underlying24 hi hz0 hz1 hz2 rfl (by decide) _ _ _ rfl (KO.out.alloc _) ⟨w4.heap.size, 0, none⟩ 1 1 [.string s] rfl rfl ?f1 ?f2 ?f3 ?f4 ?f5 ?_)
      case f1 => exact one_at _ _ _
      case f2 => exact one_cell rfl
      case f3 => unfold maxLen; omega
      case f4 => omega
      case f5 => simp; omega
      intro v' w5 hown' hgrow _
      have hx2 := (HX.out.alloc (.cells #[.string s] 9)).ownGrown (by have := HK.out; omega) (KO.out.alloc _) hgrow
      have hc2 := (HC.out.alloc (.cells #[.string s] 9)).ownGrown hg (by simp; omega) (KO.out.alloc _) hgrow
      have KO' := Lib.hid (show w5.ownsRow K 9 1 v' (L ++ [s]).length ((L ++ [s]).flatMap sone) from by rw [List.length_append, List.flatMap_append]; exact hown')
      have HL' := Lib.hid (show ∀ T ∈ L ++ [s], T.size ≤ 1001 from fun T hT => by
        rcases List.mem_append.1 hT with hT | hT
        · exact HL.out T hT
        · obtain rfl := List.mem_singleton.1 hT; have := Hs.out; omega)
      clear hown' hgrow KO HX HC
      go_wp2_with fail
      go_ret
      exact ⟨_, L ++ [s], rfl, by simp; omega, HL'.out, by unfold OwnF; rw [← HK.out]; exact KO'.out, hc2, hx2⟩
    have e1 : (y == 1) = false := by rw [beq_eq_false_iff_ne]; exact y1
    have e1' : decide (y = 1) = false := decide_eq_false y1
    go_wp2_with fail
    go_ret
    exact ⟨_, L, rfl, by omega, HL.out, by unfold OwnF; rw [← HK.out]; exact KO.out, HC.out, HX.out⟩
end Go.Proofs.Ytichegndafnjeaa

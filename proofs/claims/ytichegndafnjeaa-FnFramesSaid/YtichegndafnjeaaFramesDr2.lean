/-
  Drawn lists of records; drawn places: walks. No condition.
-/
import Derived.Test.YtichegndafnjeaaFramesDr
namespace Go.Proofs.Ytichegndafnjeaa
open Go.RowKit
set_option linter.unusedVariables false

set_option maxHeartbeats 4000000 in
set_option maxRecDepth 100000 in
theorem DrawFrames_any (A : Option Addr) (c : Nat) (l : List Int) (w : World) (hlen : l.length ≤ maxLen) (hin : ∀ x ∈ l, ByteIn x) (hr : ReadsL w w.heap.size byteC 1 A l) :
    Calls Try.prog 24 #[.slice A l.length c] w fun e w' => ∃ (v : Value) (L : List ByteArray), e = .returned v ∧ L.length ≤ 601 ∧ (∀ T ∈ L, T.size ≤ 1001) ∧ OwnF sone 1 9 w w' v L ∧ Ext w w' := by
  obtain ⟨i0, hi, hz0, hz1, hz2⟩ := info_parts info_str2
  go_enter Try.func24, Try.ntmps24
  go_wp2_with fail
  obtain ⟨q, hq⟩ : ∃ q, q = w.heap.size := ⟨_, rfl⟩
  have hqw : w.heap.size ≤ q := by omega
  have HQ := Lib.hid hq
  rw [← hq] at hr
  clear hq
  refine (l01New_any q A c l w (by rw [HQ.out]; exact Nat.le_refl _) hlen hin hr).mono ?_
  rintro e w1 ⟨g, hg, rfl, C1, E1⟩
  have hwg : w.heap.size ≤ g := hg
  have HX := Lib.hid E1
  clear hr hin E1
  go_wp2_with fail
  have g1 := C1.lt
  refine (l08Texts_any q g A c l _ C1).mono ?_
  rintro e w2 ⟨v, L, rfl, hL, hLs, hO, C2, k1⟩
  obtain ⟨K, hK⟩ : ∃ K, K = w1.heap.size := ⟨_, rfl⟩
  have hgK : g < K := by omega
  have hwK : w.heap.size ≤ K := by have := HX.out.size; omega
  have hK2 : K ≤ w2.heap.size := by have := k1.size; omega
  replace HX := Lib.hid (HX.out.nextBut hwg k1)
  have KO := Lib.hid (show w2.ownsRow K 9 1 v L.length (L.flatMap sone) from by rw [hK]; exact hO)
  have HLs := Lib.hid hLs
  clear C1 k1 hO hLs hK g1
  go_wp2_with fail
  refine (l01Below_any q g A c l 60 _ (by decide) (by decide) C2).mono ?_
  rintro e w3 ⟨x, ⟨hx0, hx1⟩, rfl, C3, k1⟩
  have hK3 : K ≤ w3.heap.size := Nat.le_trans hK2 k1.size
  replace KO := Lib.hid (ownsRow_but KO.out k1 hgK); replace HX := Lib.hid (HX.out.nextBut hwg k1)
  have HC := Lib.hid C3
  clear C2 k1 C3 hK2
  obtain ⟨V, cv, rfl, hnc⟩ := ownsRow_form KO.out
  by_cases x0 : x = 0
  case pos =>
    subst x0
    go_wp2_with fail
    go_loopw [4] (fun v wr => ∃ (L : List ByteArray), L.length ≤ 601 ∧ (∀ T ∈ L, T.size ≤ 1001) ∧ wr.ownsRow K 9 1 v L.length (L.flatMap sone) ∧ CurAt wr q g A c l ∧ K ≤ wr.heap.size ∧ Ext w wr) (fun v _ => 1000 - lenV v)
    case atStart => exact ⟨L, by omega, HLs.out, KO.out, HC.out, hK3, HX.out⟩
    case round =>
      clear KO HC HX HLs
      obtain ⟨L, hLl, hLs, hown, hcur, hKr, he⟩ := hrel
      obtain ⟨V, cv, rfl, hnc⟩ := ownsRow_form hown
      have KO := Lib.hid hown; have HLs := Lib.hid hLs; have HX := Lib.hid he
      clear hown hLs he
      go_wp2_with fail
      refine (l01Below_any q g A c l 2 _ (by decide) (by decide) hcur).mono ?_
      rintro e w1 ⟨x, ⟨hx0, hx1⟩, rfl, C1, k1⟩
      have hgw1 : K ≤ w1.heap.size := Nat.le_trans hKr k1.size
      replace KO := Lib.hid (ownsRow_but KO.out k1 hgK); replace HX := Lib.hid (HX.out.nextBut hwg k1)
      clear hcur k1
      by_cases hlt : (L.length : Int) < 600 + x
      case neg =>
        have d1 : decide ((L.length : Int) < 600 + x) = false := decide_eq_false hlt
        go_wp2_with fail
        go_ret
        exact ⟨_, L, rfl, hLl, HLs.out, ownsRow_base KO.out hwK, HX.out⟩
      have d1 : decide ((L.length : Int) < 600 + x) = true := decide_eq_true hlt
      have hK1 : K ≤ w1.heap.size := by exact Nat.le_trans hgw1 (Nat.le_refl _)
      have HC := Lib.hid C1; clear C1
      go_wp2_with (at_builtin; refine wpList_append_own _ rfl _ _ 24 rfl K 9 i0 (.string ⟨#[]⟩) 1 16 Try.underlying24 hi hz0 hz1 hz2 rfl (by decide) _ _ _ rfl (KO.out.alloc _) ⟨w1.heap.size, 0, none⟩ 1 1 [.string ⟨#[120]⟩] rfl rfl ?h1 ?h2 ?h3 ?h4 ?h5 ?_)
      case h1 => exact one_at _ _ _
      case h2 => exact one_cell rfl
      case h3 => unfold maxLen; omega
      case h4 => omega
      case h5 => simp; omega
      intro v' w4 hown' hgrow _
      have hx2 := Ext.ownGrown (HX.out.new (.cells #[.string ⟨#[120]⟩] 9)) (KO.out.alloc _) hgrow hwK
      have hc2 := (HC.out.alloc (.cells #[.string ⟨#[120]⟩] 9)).ownGrown hgK (by simp; omega) (KO.out.alloc _) hgrow
      have KO' := Lib.hid (show w4.ownsRow K 9 1 v' (L ++ [(⟨#[120]⟩ : ByteArray)]).length ((L ++ [(⟨#[120]⟩ : ByteArray)]).flatMap sone) from by rw [List.length_append, List.flatMap_append]; exact hown')
      have HL' := Lib.hid (show ∀ T ∈ L ++ [(⟨#[120]⟩ : ByteArray)], T.size ≤ 1001 from fun T hT => by
        rcases List.mem_append.1 hT with hT | hT
        · exact HLs.out T hT
        · obtain rfl := List.mem_singleton.1 hT; show (1 : Nat) ≤ 1001; omega)
      obtain ⟨V', cv', rfl, _⟩ := ownsRow_form KO'.out
      have hK4 : K ≤ w4.heap.size := by have := hgrow.size; simp at this; omega
      clear hown' hgrow KO HX HC
      go_wp2_with fail
      go_roundw
      case rel => exact ⟨L ++ [⟨#[120]⟩], by simp; omega, HL'.out, KO'.out, hc2, hK4, hx2⟩
      case measure => simp [lenV]; omega
  have e0 : (x == 0) = false := by rw [beq_eq_false_iff_ne]; exact x0
  have e0' : decide (x = 0) = false := decide_eq_false x0
  by_cases x1 : x = 1
  case pos =>
    subst x1
    go_wp2_with fail
    go_loopw [4] (fun v wr => ∃ (L : List ByteArray), L.length ≤ 601 ∧ (∀ T ∈ L, T.size ≤ 1001) ∧ wr.ownsRow K 9 1 v L.length (L.flatMap sone) ∧ CurAt wr q g A c l ∧ K ≤ wr.heap.size ∧ Ext w wr) (fun v _ => 1000 - lenV v)
    case atStart => exact ⟨L, by omega, HLs.out, KO.out, HC.out, hK3, HX.out⟩
    case round =>
      clear KO HC HX HLs
      obtain ⟨L, hLl, hLs, hown, hcur, hKr, he⟩ := hrel
      obtain ⟨V, cv, rfl, hnc⟩ := ownsRow_form hown
      have KO := Lib.hid hown; have HLs := Lib.hid hLs; have HX := Lib.hid he
      clear hown hLs he
      go_wp2_with fail
      refine (l01Below_any q g A c l 3 _ (by decide) (by decide) hcur).mono ?_
      rintro e w1 ⟨x, ⟨hx0, hx1⟩, rfl, C1, k1⟩
      have hgw1 : K ≤ w1.heap.size := Nat.le_trans hKr k1.size
      replace KO := Lib.hid (ownsRow_but KO.out k1 hgK); replace HX := Lib.hid (HX.out.nextBut hwg k1)
      clear hcur k1
      by_cases hlt : (L.length : Int) < 298 + x
      case neg =>
        have d1 : decide ((L.length : Int) < 298 + x) = false := decide_eq_false hlt
        go_wp2_with fail
        go_ret
        exact ⟨_, L, rfl, hLl, HLs.out, ownsRow_base KO.out hwK, HX.out⟩
      have d1 : decide ((L.length : Int) < 298 + x) = true := decide_eq_true hlt
      go_wp2_with fail
      refine (l01Long_any 1000 34 _ (by omega) (by decide)).mono ?_
      rintro e w2 ⟨s, hs, rfl, k1⟩
      replace KO := Lib.hid (ownsRow_ext KO.out k1); replace HX := Lib.hid (HX.out.next k1)
      replace C1 := C1.ext k1; replace hgw1 := Nat.le_trans hgw1 k1.size
      have Hs := Lib.hid hs
      clear k1 hs
      have hK1 : K ≤ w2.heap.size := by exact Nat.le_trans hgw1 (Nat.le_refl _)
      have HC := Lib.hid C1; clear C1
      go_wp2_with (at_builtin; refine wpList_append_own _ rfl _ _ 24 rfl K 9 i0 (.string ⟨#[]⟩) 1 16 Try.underlying24 hi hz0 hz1 hz2 rfl (by decide) _ _ _ rfl (KO.out.alloc _) ⟨w2.heap.size, 0, none⟩ 1 1 [.string s] rfl rfl ?m1 ?m2 ?m3 ?m4 ?m5 ?_)
      case m1 => exact one_at _ _ _
      case m2 => exact one_cell rfl
      case m3 => unfold maxLen; omega
      case m4 => omega
      case m5 => simp; omega
      intro v' w4 hown' hgrow _
      have hx2 := Ext.ownGrown (HX.out.new (.cells #[.string s] 9)) (KO.out.alloc _) hgrow hwK
      have hc2 := (HC.out.alloc (.cells #[.string s] 9)).ownGrown hgK (by simp; omega) (KO.out.alloc _) hgrow
      have KO' := Lib.hid (show w4.ownsRow K 9 1 v' (L ++ [(s : ByteArray)]).length ((L ++ [(s : ByteArray)]).flatMap sone) from by rw [List.length_append, List.flatMap_append]; exact hown')
      have HL' := Lib.hid (show ∀ T ∈ L ++ [(s : ByteArray)], T.size ≤ 1001 from fun T hT => by
        rcases List.mem_append.1 hT with hT | hT
        · exact HLs.out T hT
        · obtain rfl := List.mem_singleton.1 hT; have := Hs.out; omega)
      obtain ⟨V', cv', rfl, _⟩ := ownsRow_form KO'.out
      have hK4 : K ≤ w4.heap.size := by have := hgrow.size; simp at this; omega
      clear hown' hgrow KO HX HC
      go_wp2_with fail
      go_roundw
      case rel => exact ⟨L ++ [s], by simp; omega, HL'.out, KO'.out, hc2, hK4, hx2⟩
      case measure => simp [lenV]; omega
  have e1 : (x == 1) = false := by rw [beq_eq_false_iff_ne]; exact x1
  have e1' : decide (x = 1) = false := decide_eq_false x1
  go_wp2_with fail
  go_ret
  exact ⟨_, L, rfl, by omega, HLs.out, ownsRow_base KO.out hwK, HX.out⟩
set_option maxHeartbeats 2000000 in
set_option maxRecDepth 100000 in
theorem DrawPlaces_any (A : Option Addr) (c : Nat) (l : List Int) (w : World) (hlen : l.length ≤ maxLen) (hin : ∀ x ∈ l, ByteIn x) (hr : ReadsL w w.heap.size byteC 1 A l) :
    Calls Try.prog 10 #[.slice A l.length c] w fun e w' => ∃ (v : Value) (L : List Int), e = .returned v ∧ L.length = 12 ∧ (∀ x ∈ L, 0 ≤ x ∧ x < 10000) ∧ OwnF icell 1 3 w w' v L ∧ Ext w w' := by
  obtain ⟨i0, hi, hz0, hz1, hz2⟩ := info_parts info_int2
  go_enter Try.func10, Try.ntmps10
  go_wp2_with fail
  obtain ⟨q, hq⟩ : ∃ q, q = w.heap.size := ⟨_, rfl⟩
  have hqw : w.heap.size ≤ q := by omega
  have HQ := Lib.hid hq
  rw [← hq] at hr
  clear hq
  refine (l01New_any q A c l w (by rw [HQ.out]; exact Nat.le_refl _) hlen hin hr).mono ?_
  rintro e w1 ⟨g, hg, rfl, C1, E1⟩
  have hwg : w.heap.size ≤ g := hg
  have HX := Lib.hid E1
  clear hr hin E1
  go_wp2_with fail
  refine (l01Byte_any q g A c l _ C1).mono ?_
  rintro e w2 ⟨x, _, rfl, C2, k1⟩
  replace HX := Lib.hid (HX.out.nextBut hwg k1)
  clear C1 k1
  go_wp2_with fail
  have g2 := C2.lt
  have H0 := Lib.hid (ownsRow_empty w2 3 1)
  have HC := Lib.hid (C2.alloc (.cells #[] 3))
  have hw2 : w.heap.size ≤ w2.heap.size := HX.out.size
  replace HX := Lib.hid (HX.out.new (.cells #[] 3))
  obtain ⟨K, hK⟩ : ∃ K, K = w2.heap.size := ⟨_, rfl⟩
  have HK := Lib.hid hK
  rw [← hK] at H0 g2 hw2
  rw [← hK]
  clear hK C2
  go_loopw [4, 5] (fun v i wr => ∃ (k : Nat) (L : List Int), k ≤ 12 ∧ i = .int .i64 (k : Int) ∧ L.length = k ∧ (∀ x ∈ L, 0 ≤ x ∧ x < 10000) ∧ wr.ownsRow K 3 1 v L.length (L.flatMap icell) ∧ CurAt wr q g A c l ∧ K ≤ wr.heap.size ∧ Ext w wr) (fun _ i _ => 12 - (intOf i).toNat)
  case atStart => exact ⟨0, [], by omega, rfl, rfl, by simp, H0.out, HC.out, by have := HK.out; simp; omega, HX.out⟩
  case round =>
    clear H0 HC HX
    obtain ⟨k, L, hk, rfl, hlk, hLs, hown, hcur, hKr, he⟩ := hrel
    subst hlk
    obtain ⟨V, cv, rfl, hnc⟩ := ownsRow_form hown
    have KO := Lib.hid hown; have HLs := Lib.hid hLs; have HX := Lib.hid he
    clear hown hLs he
    by_cases hlt : L.length < 12
    case neg =>
      have d1 : decide ((L.length : Int) < 12) = false := by rw [decide_eq_false_iff_not]; omega
      go_wp2_with fail
      go_ret
      exact ⟨_, L, rfl, by omega, HLs.out, ownsRow_base KO.out hw2, HX.out⟩
    have d1 : decide ((L.length : Int) < 12) = true := by rw [decide_eq_true_eq]; omega
    go_wp2_with fail
    refine (l01Below_any q g A c l 10000 _ (by decide) (by decide) hcur).mono ?_
    rintro e w3 ⟨y, hy, rfl, C3, k1⟩
    have hgw1 : K ≤ w3.heap.size := Nat.le_trans hKr k1.size
    replace KO := Lib.hid (ownsRow_but KO.out k1 g2); replace HX := Lib.hid (HX.out.nextBut hwg k1)
    have HC := Lib.hid C3
    have Hy := Lib.hid hy
    clear hcur k1 C3 hy
    go_wp2_with (at_builtin; refine wpList_append_own _ rfl _ _ 28 rfl K 3 i0 (.int .i64 0) 1 8 Try.underlying28 hi hz0 hz1 hz2 rfl (by decide) _ _ _ rfl (KO.out.alloc _) ⟨w3.heap.size, 0, none⟩ 1 1 [.int .i64 y] rfl rfl ?h1 ?h2 ?h3 ?h4 ?h5 ?_)
    case h1 => exact one_at _ _ _
    case h2 => exact one_cell rfl
    case h3 => unfold maxLen; omega
    case h4 => omega
    case h5 => simp; omega
    intro v' w4 hown' hgrow _
    have hx2 := Ext.ownGrown (HX.out.new (.cells #[.int .i64 y] 3)) (KO.out.alloc _) hgrow hw2
    have hc2 := (HC.out.alloc (.cells #[.int .i64 y] 3)).ownGrown g2 (by simp; omega) (KO.out.alloc _) hgrow
    have KO' := Lib.hid (show w4.ownsRow K 3 1 v' (L ++ [y]).length ((L ++ [y]).flatMap icell) from by rw [List.length_append, List.flatMap_append]; exact hown')
    have HL' := Lib.hid (show ∀ z ∈ L ++ [y], 0 ≤ z ∧ z < 10000 from fun z hz => by
      rcases List.mem_append.1 hz with hz | hz
      · exact HLs.out z hz
      · obtain rfl := List.mem_singleton.1 hz; exact Hy.out)
    have hK4 : K ≤ w4.heap.size := by have := hgrow.size; simp at this; omega
    obtain ⟨V', cv', rfl, _⟩ := ownsRow_form KO'.out
    clear hown' hgrow KO HX HC
    go_wp2_with fail
    go_roundw
    case rel => exact ⟨L.length + 1, L ++ [y], by omega, by go_num, by simp, HL'.out, KO'.out, hc2, hK4, hx2⟩
    case measure => simp [intOf]; omega
end Go.Proofs.Ytichegndafnjeaa

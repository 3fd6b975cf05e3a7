/-
  Draw8: No condition.
-/
import Derived.Test.YtgeengkdgdjcjaaPlacesW
import Derived.Test.YtgeengkdgdjcjaaRowTx
namespace Go.Proofs.Ytgeengkdgdjcjaa
set_option maxHeartbeats 4000000
set_option maxRecDepth 100000
set_option linter.unusedSimpArgs false
open Go.RowKit
set_option linter.unusedVariables false
theorem ExtBut.newCell {g : Nat} {a b : World} (h : ExtBut g a b) {p : Addr} (hp : a.heap.size ≤ p.block) (u : Value) : ExtBut g a (b.setCell p u) :=
 ⟨h.os, h.tape, h.output, by simpa [World.setCell] using h.size, fun i hi hne => (Below.heap_setCell b p u i (by omega)).trans (h.block i hi hne)⟩
theorem l01Width_any (B g : Nat) (A : Option Addr) (c : Nat) (l : List Int) (w : World) (hC : CurAt w B g A c l) :
 Calls Try.prog 16 #[.pointer (some ⟨g, 0, none⟩)] w fun e w' => ∃ n : Int, e = .returned (.int .i64 n) ∧ CurAt w' B g A c l ∧ ExtBut g w w' := by
 go_enter Try.func16, Try.ntmps16
 go_wp2_with fail
 refine (l01Below_any B g A c l 12 _ (by decide) (by decide) hC).mono ?_
 rintro e w1 ⟨x, ⟨hx0, hx1⟩, rfl, C1, k1⟩
 have hg := C1.lt
 obtain h | h | h | h : x = 0 ∨ (x = 1 ∨ x = 2) ∨ (x = 3 ∨ x = 4) ∨ (x = 5 ∨ x = 6 ∨ x = 7 ∨ x = 8 ∨ x = 9 ∨ x = 10 ∨ x = 11) := by omega
 · subst h
   clear hC
   go_wp2_with fail
   refine (l01PickInt_any B g w1.heap.size A c _ l [0, -1, 33, 9223372036854775807] _ (by decide) (by decide) (by omega) (Blk.new w1 3 #[.int .i64 0, .int .i64 (-1), .int .i64 33, .int .i64 9223372036854775807]) (C1.ext (Ext.new (Below.refl _ _) (.cells #[.int .i64 0, .int .i64 (-1), .int .i64 33, .int .i64 9223372036854775807] 3)))).mono ?_
   rintro e w2 ⟨t, _, rfl, C2, k2⟩
   go_wp2_with fail
   go_ret
   exact ⟨t, rfl, C2, (k1.next (ExtBut.of_ext (Ext.new (Below.refl _ _) (.cells #[.int .i64 0, .int .i64 (-1), .int .i64 33, .int .i64 9223372036854775807] 3)))).next k2⟩
 · rcases h with rfl | rfl
   all_goals
    go_wp2_with fail
    go_ret
    exact ⟨_, rfl, C1, k1⟩
 · rcases h with rfl | rfl
   all_goals
    go_wp2_with fail
    go_ret
    exact ⟨_, rfl, C1, k1⟩
 · rcases h with rfl | rfl | rfl | rfl | rfl | rfl | rfl
   all_goals
    go_wp2_with fail
    refine (l01Below_any B g A c l 9 _ (by decide) (by decide) C1).mono ?_
    rintro e w2 ⟨y, ⟨hy0, hy1⟩, rfl, C2, k2⟩
    go_wp2_with fail
    go_ret
    exact ⟨_, rfl, C2, k1.next k2⟩
theorem l04Few_any (B g : Nat) (A : Option Addr) (c : Nat) (l : List Int) (w : World) (hC : CurAt w B g A c l) :
 Calls Try.prog 30 #[.pointer (some ⟨g, 0, none⟩)] w fun e w' => ∃ n : Nat, n ≤ 512 ∧ e = .returned (.int .i64 (n : Int)) ∧ CurAt w' B g A c l ∧ ExtBut g w w' := by
 go_enter Try.func30, Try.ntmps30
 go_wp2_with fail
 refine (l01Once_any B g A c l 40 _ (by decide) (by decide) hC).mono ?_
 rintro e w1 ⟨b, rfl, C1, k1⟩
 cases b
 · go_wp2_with fail
   refine (l01Below_any B g A c l 20 _ (by decide) (by decide) C1).mono ?_
   rintro e w2 ⟨x, ⟨hx0, hx1⟩, rfl, C2, k2⟩
   obtain ⟨n, rfl⟩ : ∃ n : Nat, x = (n : Int) := ⟨x.toNat, by omega⟩
   go_wp2_with fail
   go_ret
   exact ⟨n, by omega, rfl, C2, k1.next k2⟩
 · go_wp2_with fail
   refine (l01Below_any B g A c l 3 _ (by decide) (by decide) C1).mono ?_
   rintro e w2 ⟨x, ⟨hx0, hx1⟩, rfl, C2, k2⟩
   obtain ⟨n, hn⟩ : ∃ n : Nat, 512 - x = (n : Int) := ⟨(512 - x).toNat, by omega⟩
   have hw : IntKind.i64.wrap (n : Int) = (n : Int) := IntWalk.i64_in _ (by omega)
   go_wp2_with fail
   go_ret
   exact ⟨n, by omega, rfl, C2, k1.next k2⟩
theorem l04List_any (B g : Nat) (A : Option Addr) (c : Nat) (l : List Int) (wd : Int) (n : Nat) (w : World) (hn : n ≤ 1000) (hC : CurAt w B g A c l) :
 Calls Try.prog 32 #[.pointer (some ⟨g, 0, none⟩), .int .i64 wd, .int .i64 (n : Int)] w fun e w' => ∃ (v : Value) (L : List ByteArray), e = .returned v ∧ L.length = n ∧ (∀ T ∈ L, T.size ≤ 32) ∧ w'.ownsRow w.heap.size 9 1 v n (L.flatMap sone) ∧ CurAt w' B g A c l ∧ ExtBut g w w' := by
 obtain ⟨i0, hi, hz0, hz1, hz2⟩ := info_parts info_string
 have hg := hC.lt
 go_enter Try.func32, Try.ntmps32
 go_wp2_with fail
 refine (l02Width_any _ _).mono ?_
 rintro e w' ⟨rfl, rfl⟩
 go_upto_if 11 with fail
 go_cut [1] (fun u wx => w = wx ∧ ∃ k : Nat, k ≤ 32 ∧ u = .int .i64 (k : Int))
 case first =>
  cases hd : inR wd 1 32
  · go_wp2_with fail
    go_meet
    exact ⟨rfl, 3, by decide, rfl⟩
  · have := inR_true hd
    go_wp2_with fail
    go_meet
    exact ⟨rfl, wd.toNat, by omega, by rw [Int.toNat_of_nonneg (by omega)]⟩
 case rest =>
  obtain ⟨rfl, q, hq, rfl⟩ := hcut
  have H0 := hU (show (w.alloc (.cells #[] 9)).ownsRow w.heap.size 9 1 (.slice (some ⟨w.heap.size, 0, none⟩) 0 0) 0 (([] : List ByteArray).flatMap sone) from ownsRow_empty w 9 1)
  have H1 := hU (hC.alloc (.cells #[] 9))
  have HE := hU ((ExtBut.refl g w).alloc (.cells #[] 9))
  clear hC
  go_upto_region 5 with fail
  obtain ⟨K, hK⟩ : ∃ K, K = w.heap.size := ⟨_, rfl⟩
  have HK := hU hK
  rw [← hK] at H0 hg
  rw [← hK]
  clear hK
  go_loopw [7, 8] (fun v x wr => ∃ (k : Nat) (L : List ByteArray), k ≤ n ∧ L.length = k ∧ x = .int .i64 (k : Int) ∧ (∀ T ∈ L, T.size ≤ 32) ∧ wr.ownsRow K 9 1 v k (L.flatMap sone) ∧ CurAt wr B g A c l ∧ ExtBut g w wr) (fun _ x _ => n - (intOf x).toNat)
  case atStart => exact ⟨0, [], Nat.zero_le _, rfl, rfl, by simp, H0.out, H1.out, HE.out⟩
  case round =>
   clear H0 H1 HE
   obtain ⟨k, L, hk, hxl, rfl, hxb, hown, hcur, he⟩ := hrel
   obtain ⟨A', c', rfl, hnc'⟩ := ownsRow_form hown
   have KO := hU hown
   clear hown
   by_cases hlt : k < n
   · have hkz : (k : Int) < (n : Int) := by omega
     go_wp2_with fail
     refine (l01Text_any _ g A c l q _ (by omega) hcur).mono ?_
     rintro e w4 ⟨y, hy, rfl, h1, k1⟩
     have KO1 := hU (ownsRow_but KO.out k1 hg)
     have he1 := hU (he.next k1)
     have HC1 := hU h1
     have Hn := hU (show L.flatMap sone ++ [.string y] = (L ++ [y]).flatMap sone by simp [sone])
     have Hb := hU (show ∀ z ∈ L ++ [y], z.size ≤ 32 by
      intro z hz
      rcases List.mem_append.1 hz with h | h
      · exact hxb z h
      · obtain rfl := List.mem_singleton.1 h; omega)
     clear KO he h1 k1 hcur hxb
     go_wp2_with (at_builtin; refine wpList_append_own _ rfl _ _ 24 rfl K 9 i0 _ 1 16 Try.underlying24 hi hz0 hz1 hz2 rfl (by decide) _ _ _ rfl (KO1.out.alloc _) ⟨w4.heap.size, 0, none⟩ 1 1 [.string y] rfl rfl ?c1 ?c2 ?c3 ?c4 ?c5 ?_)
     case c1 => exact one_at _ _ _
     case c2 => exact one_cell rfl
     case c3 => unfold maxLen; omega
     case c4 => omega
     case c5 => have := he1.out.size; have := HK.out; simp; omega
     intro v' w5 hown' hgrow _
     have hK1 : K ≤ (w4.alloc (.cells #[.string y] 9)).heap.size := by have := he1.out.size; have := HK.out; simp; omega
     have he2 := (he1.out.alloc (.cells #[.string y] 9)).ownGrown (by have := HK.out; omega) (KO1.out.alloc _) hgrow
     have hc2 := (HC1.out.alloc (.cells #[.string y] 9)).ownGrown hg hK1 (KO1.out.alloc _) hgrow
     rw [Hn.out] at hown'
     obtain ⟨A'', c'', rfl, _⟩ := ownsRow_form hown'
     have KO' := hU hown'
     clear hown' hgrow KO1 he1 HC1
     go_wp2_with fail
     go_roundw
     case rel => exact ⟨k + 1, L ++ [y], by omega, by simp [hxl], by go_num, Hb.out, KO'.out, hc2, he2⟩
     case measure => simp [intOf]; omega
   · obtain rfl : k = n := by omega
     have HB := hU hxb; have HL := hU hxl
     clear hxb hxl
     go_wp2_with fail
     go_ret
     exact ⟨_, L, rfl, HL.out, HB.out, by rw [← HK.out]; exact KO.out, hcur, he⟩
theorem l04Leaves_any (B g : Nat) (A : Option Addr) (c : Nat) (l : List Int) (wd : Int) (w : World) (hC : CurAt w B g A c l) :
 Calls Try.prog 17 #[.pointer (some ⟨g, 0, none⟩), .int .i64 wd] w fun e w' => ∃ (v : Value) (L : List ByteArray), e = .returned v ∧ L.length ≤ 600 ∧ RowT w.heap.size w' v L ∧ CurAt w' B g A c l ∧ ExtBut g w w' := by
 have hg := hC.lt
 have HC := hU hC
 go_enter Try.func17, Try.ntmps17
 go_wp2_with fail
 refine (l04Few_any B g A c l _ HC.out).mono ?_
 rintro e w1 ⟨n, hn, rfl, C1, k1⟩
 replace HC := hU C1; have HK := hU k1
 clear C1 k1 hC
 go_wp2_with fail
 refine (l01Once_any B g A c l 40 _ (by decide) (by decide) HC.out).mono ?_
 rintro e w2 ⟨b, rfl, C2, k2⟩
 replace HC := hU C2; replace HK := hU (HK.out.next k2)
 clear C2 k2
 go_upto_if 10 with fail
 go_cut [5] (fun u wx => ∃ m : Nat, m ≤ 600 ∧ u = .int .i64 (m : Int) ∧ CurAt wx B g A c l ∧ ExtBut g w wx)
 case first =>
  cases b
  · go_wp2_with fail
    go_meet
    exact ⟨n, by omega, rfl, HC.out, HK.out⟩
  · go_wp2_with fail
    refine (l01Below_any B g A c l 2 _ (by decide) (by decide) HC.out).mono ?_
    rintro e w3 ⟨x, ⟨hx0, hx1⟩, rfl, C3, k3⟩
    obtain ⟨m, hm⟩ : ∃ m : Nat, 512 + x = (m : Int) := ⟨(512 + x).toNat, by omega⟩
    have hw : IntKind.i64.wrap (512 + x) = (m : Int) := by rw [hm]; exact IntWalk.i64_in _ (by omega)
    have hm6 : m ≤ 600 := by omega
    have HM := hU hm
    clear hm
    go_wp2_with fail
    go_meet
    exact ⟨m, hm6, rfl, C3, HK.out.next k3⟩
 case rest =>
  clear HC HK hn
  obtain ⟨m, hm, rfl, C3, k3⟩ := hcut
  have HK := hU k3
  clear k3
  go_wp2_with fail
  refine (l04List_any B g A c l wd m _ (by omega) C3).mono ?_
  rintro e w4 ⟨v, L, rfl, hL, _, ho, C4, k4⟩
  obtain ⟨V, cv, rfl, _⟩ := ownsRow_form ho
  have HR := hU (show RowT w.heap.size w4 (.slice V m cv) L from by
   have h2 := ownsRow_base (B' := w.heap.size) ho HK.out.size
   rw [RowT, hL]; exact h2)
  replace HK := hU (HK.out.next k4); have HC := hU C4
  clear ho k4 C4 C3
  go_wp2_with fail
  refine (l01Once_any B g A c l 25 _ (by decide) (by decide) HC.out).mono ?_
  rintro e w5 ⟨b5, rfl, C5, k5⟩
  replace HR := hU (show RowT w.heap.size w5 (.slice V m cv) L from ownsRow_but HR.out k5 hg)
  replace HK := hU (HK.out.next k5); replace HC := hU C5
  clear k5 C5
  by_cases hb : b5 = true ∧ 0 < m
  case neg =>
   cases b5
   case false =>
    go_wp2_with fail
    go_ret
    exact ⟨_, L, rfl, by omega, HR.out, HC.out, HK.out⟩
   have hm0 : m = 0 := by
    rcases Nat.eq_zero_or_pos m with h | h
    · exact h
    · exact absurd ⟨rfl, h⟩ hb
   have hm1 : ¬ (m : Int) > 0 := by omega
   clear hb hm0
   go_wp2_with fail
   go_ret
   exact ⟨_, L, rfl, by omega, HR.out, HC.out, HK.out⟩
  obtain ⟨rfl, hm0⟩ := hb
  have hm1 : (m : Int) > 0 := by omega
  go_wp2_with fail
  refine (l01Below_any B g A c l (m : Int) _ (by omega) (by omega) HC.out).mono ?_
  rintro e w6 ⟨x, ⟨hx0, hx1⟩, rfl, C6, k6⟩
  obtain ⟨k, rfl⟩ : ∃ k : Nat, x = (k : Int) := ⟨x.toNat, by omega⟩
  replace HR := hU (show RowT w.heap.size w6 (.slice V m cv) L from ownsRow_but HR.out k6 hg)
  replace HK := hU (HK.out.next k6)
  obtain ⟨q, rfl, hq, hql, cq, fq, hset⟩ := RowT.put_at HR.out hL (k := k) (by omega)
  have HS := hU (hset ⟨#[63, 33]⟩)
  obtain ⟨T0, hT0⟩ : ∃ T, L[k]? = some T := ⟨_, List.getElem?_eq_getElem (by omega)⟩
  have cq2 := cq T0 hT0
  clear cq hT0
  have hx2 : ¬ (k : Int) < 0 := by omega
  have hx3 : ¬ (m : Int) ≤ (k : Int) := by omega
  have HC6 := hU (C6.far (p := q) (by have := C6.1; omega) (by omega) [.string ⟨#[63, 33]⟩] k)
  have HK6 := hU (HK.out.newCell (p := ⟨q, k, none⟩) (show w.heap.size ≤ q from hq) (.string ⟨#[63, 33]⟩))
  clear C6 k6 HC hset
  go_wp2_with fail
  go_ret
  exact ⟨_, L.set k ⟨#[63, 33]⟩, rfl, by rw [List.length_set]; omega, HS.out, HC6.out, HK6.out⟩
theorem DrawRootOf_any (A : Option Addr) (c : Nat) (l : List Int) (w : World) (hlen : l.length ≤ maxLen) (hin : ∀ x ∈ l, ByteIn x) (hr : ReadsL w w.heap.size byteC 1 A l) :
 Calls Try.prog 5 #[.slice A l.length c] w fun e w' => ∃ (n : Int) (v : Value) (L : List ByteArray), e = .returned (.tuple #[.int .i64 n, v]) ∧ L.length ≤ 600 ∧ RowT w.heap.size w' v L ∧ Ext w w' := by
 have NW := hU (l01New_any w.heap.size A c l _ (Nat.le_refl _) hlen hin hr)
 clear hin hr
 go_enter Try.func5, Try.ntmps5
 go_wp2_with fail
 refine NW.out.mono ?_
 rintro e w1 ⟨g, hgw, rfl, hc, he⟩
 have HE := hU he
 clear NW he
 go_wp2_with fail
 refine (l01Width_any _ g A c l _ hc).mono ?_
 rintro e w2 ⟨n, rfl, C2, k2⟩
 replace HE := hU (HE.out.nextBut hgw k2)
 clear hc k2
 go_wp2_with fail
 refine (l04Leaves_any _ g A c l n _ C2).mono ?_
 rintro e w3 ⟨v, L, rfl, hL, hR, C3, k3⟩
 have HR := hU (show RowT w.heap.size w3 v L from ownsRow_base hR HE.out.size)
 replace HE := hU (HE.out.nextBut hgw k3)
 clear hR C2 C3 k3
 go_wp2_with fail
 go_ret2
 exact ⟨n, _, L, rfl, hL, HR.out, HE.out⟩
end Go.Proofs.Ytgeengkdgdjcjaa

/-
  Draw3; Draw4; PlacesW: No condition.
-/
import Derived.Test.YtgeengkdgdjcjaaDraw2
import Derived.Test.YtgeengkdgdjcjaaTexts
import Derived.Deep.RegionHeld3
import Derived.Test.YtgeengkdgdjcjaaNString
import Derived.Test.YtgeengkdgdjcjaaAppSrc
namespace Go.Proofs.Ytgeengkdgdjcjaa
set_option maxHeartbeats 2000000
set_option linter.unusedSimpArgs false
open Go.RowKit
set_option linter.unusedVariables false
theorem l01Once_any (B g : Nat) (A : Option Addr) (c : Nat) (l : List Int) (n : Int) (w : World) (hn0 : 0 < n) (hn1 : n ≤ 1099511627776) (hC : CurAt w B g A c l) :
 Calls Try.prog 31 #[.pointer (some ⟨g, 0, none⟩), .int .i64 n] w fun e w' => ∃ b, e = .returned (.bool b) ∧ CurAt w' B g A c l ∧ ExtBut g w w' := by
 go_enter Try.func31, Try.ntmps31
 go_wp2_with fail
 refine (l01Below_any B g A c l _ _ hn0 hn1 hC).mono ?_
 rintro e w1 ⟨x, ⟨hx0, hx1⟩, rfl, h1, k1⟩
 go_wp2_with fail
 go_ret
 exact ⟨_, rfl, h1, k1⟩
set_option maxRecDepth 100000
theorem l01PickInt_any (B g p : Nat) (A : Option Addr) (c cp : Nat) (l : List Int) (ts : List Int) (w : World) (hpos : 0 < ts.length) (hts : ts.length ≤ 256) (hpg : p ≠ g) (hp : Blk w p 3 (ts.map (Value.int .i64)).toArray) (hC : CurAt w B g A c l) :
 Calls Try.prog 29 #[.pointer (some ⟨g, 0, none⟩), .slice (some ⟨p, 0, none⟩) ts.length cp] w fun e w' => ∃ t ∈ ts, e = .returned (.int .i64 t) ∧ CurAt w' B g A c l ∧ ExtBut g w w' := by
 go_enter Try.func29, Try.ntmps29
 go_wp2_with fail
 refine (l01Below_any B g A c l _ _ (by omega) (by omega) hC).mono ?_
 rintro e w1 ⟨x, ⟨hx0, hx1⟩, rfl, h1, k1⟩
 obtain ⟨k, rfl⟩ : ∃ k : Nat, x = (k : Int) := ⟨x.toNat, by omega⟩
 have hk : k < ts.length := by omega
 have hp1 := hp.extBut k1 hpg
 have c0 : w1.cell? ⟨p, k, none⟩ = some (.int .i64 ts[k]) := by rw [hp1.cell]; simp [hk]
 have c1 : w1.cell? ⟨p, 0 + k * 1, none⟩ = some (.int .i64 ts[k]) := by rw [Nat.mul_one, Nat.zero_add]; exact c0
 have hm := List.getElem_mem hk
 have hw : IntKind.i64.wrap (k : Int) = (k : Int) := IntWalk.i64_in _ (by omega)
 clear hp1 hp
 generalize ts[k] = t at *
 go_wp2_with fail
 go_ret
 exact ⟨t, hm, rfl, h1, k1⟩
set_option maxHeartbeats 4000000
def ivs (xs : List Int) : List Value := xs.map (Value.int .i64)
theorem ivs_snoc (xs : List Int) (y : Int) : ivs xs ++ [.int .i64 y] = ivs (xs ++ [y]) := by simp [ivs]
theorem DrawPlaces_any (A : Option Addr) (c : Nat) (l : List Int) (w : World) (hlen : l.length ≤ maxLen) (hin : ∀ x ∈ l, ByteIn x) (hr : ReadsL w w.heap.size byteC 1 A l) :
 Calls Try.prog 7 #[.slice A l.length c] w fun e w' => ∃ (v : Value) (xs : List Int), e = .returned v ∧ xs.length = 12 ∧ (∀ y ∈ xs, 0 ≤ y ∧ y < 10000) ∧ w'.ownsRow w.heap.size 3 1 v 12 (ivs xs) ∧ Ext w w' := by
 obtain ⟨i0, hi, hz0, hz1, hz2⟩ := info_parts info_int
 have NW := hU (l01New_any w.heap.size A c l _ (Nat.le_refl _) hlen hin hr)
 clear hin hr
 go_enter Try.func7, Try.ntmps7
 go_wp2_with fail
 refine NW.out.mono ?_
 rintro e w1 ⟨g, hgw, rfl, hc, he⟩
 clear NW
 go_wp2_with fail
 refine (l01Byte_any _ g A c l _ hc).mono ?_
 rintro e w2 ⟨x0, _, rfl, hc, k1⟩
 replace he := he.nextBut hgw k1
 clear k1
 go_upto_region 5 with fail
 have H0 := hU (show (w2.alloc (.cells #[] 3)).ownsRow w2.heap.size 3 1 (.slice (some ⟨w2.heap.size, 0, none⟩) 0 0) 0 (ivs []) from ownsRow_empty w2 3 1)
 have H1 := hU (hc.alloc (.cells #[] 3))
 have HE := hU ((ExtBut.refl g w2).alloc (.cells #[] 3))
 have hg := hc.lt
 have HX := hU he
 have hs2 := he.size
 clear hc he
 obtain ⟨K, hK⟩ : ∃ K, K = w2.heap.size := ⟨_, rfl⟩
 have HK := hU hK
 rw [← hK] at H0 hg hs2
 rw [← hK]
 clear hK
 go_loopw [4, 5] (fun v x wr => ∃ (k : Nat) (xs : List Int), k ≤ 12 ∧ xs.length = k ∧ x = .int .i64 (k : Int) ∧ (∀ y ∈ xs, 0 ≤ y ∧ y < 10000) ∧ wr.ownsRow K 3 1 v k (ivs xs) ∧ CurAt wr w.heap.size g A c l ∧ ExtBut g w2 wr) (fun _ x _ => 12 - (intOf x).toNat)
 case atStart => exact ⟨0, [], Nat.zero_le _, rfl, rfl, by simp, H0.out, H1.out, HE.out⟩
 case round =>
  clear H0 H1 HE
  obtain ⟨k, xs, hk, hxl, rfl, hxb, hown, hcur, he⟩ := hrel
  obtain ⟨A', c', rfl, hnc'⟩ := ownsRow_form hown
  have KO := hU hown
  clear hown
  by_cases hlt : k < 12
  · have hkz : (k : Int) < 12 := by omega
    go_wp2_with fail
    refine (l01Below_any _ g A c l 10000 _ (by decide) (by decide) hcur).mono ?_
    rintro e w4 ⟨y, ⟨hy0, hy1⟩, rfl, h1, k1⟩
    have KO1 := hU (ownsRow_but KO.out k1 hg)
    have he1 := hU (he.next k1)
    have HC1 := hU h1
    have Hn := hU (ivs_snoc xs y)
    have Hb := hU (show ∀ z ∈ xs ++ [y], 0 ≤ z ∧ z < 10000 by
     intro z hz
     rcases List.mem_append.1 hz with h | h
     · exact hxb z h
     · obtain rfl := List.mem_singleton.1 h; omega)
    clear KO he h1 k1 hcur hxb
    go_wp2_with (at_builtin; refine wpList_append_own _ rfl _ _ 28 rfl K 3 i0 _ 1 8 Try.underlying28 hi hz0 hz1 hz2 rfl (by decide) _ _ _ rfl (KO1.out.alloc _) ⟨w4.heap.size, 0, none⟩ 1 1 [.int .i64 y] rfl rfl ?c1 ?c2 ?c3 ?c4 ?c5 ?_)
    case c1 => exact one_at _ _ _
    case c2 => exact one_cell rfl
    case c3 => unfold maxLen; omega
    case c4 => omega
    case c5 => have := he1.out.size; have := HK.out; simp; omega
    intro v' w5 hown' hgrow _
    have hK1 : K ≤ (w4.alloc (.cells #[.int .i64 y] 3)).heap.size := by have := he1.out.size; have := HK.out; simp; omega
    have he2 := (he1.out.alloc (.cells #[.int .i64 y] 3)).ownGrown (by have := HK.out; omega) (KO1.out.alloc _) hgrow
    have hc2 := (HC1.out.alloc (.cells #[.int .i64 y] 3)).ownGrown hg hK1 (KO1.out.alloc _) hgrow
    rw [Hn.out] at hown'
    obtain ⟨A'', c'', rfl, _⟩ := ownsRow_form hown'
    have KO' := hU hown'
    clear hown' hgrow KO1 he1 HC1
    go_wp2_with fail
    go_roundw
    case rel => exact ⟨k + 1, xs ++ [y], by omega, by simp [hxl], by go_num, Hb.out, KO'.out, hc2, he2⟩
    case measure => simp [intOf]; omega
  · obtain rfl : k = 12 := by omega
    have HB := hU hxb; have HL := hU hxl
    clear hxb hxl
    go_wp2_with fail
    go_ret
    exact ⟨_, xs, rfl, HL.out, HB.out, ownsRow_base KO.out hs2, HX.out.nextBut hgw he⟩
end Go.Proofs.Ytgeengkdgdjcjaa

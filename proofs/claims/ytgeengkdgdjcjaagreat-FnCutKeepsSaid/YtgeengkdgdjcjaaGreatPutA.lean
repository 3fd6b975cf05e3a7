/-
  Reopen4; MendWk; RpnLw; Draw4; PlacesW; PutW; PutA: No condition.
-/
import Derived.Test.YtgeengkdgdjcjaaGreatMarkWrite
import Derived.Test.YtgeengkdgdjcjaaGreatReopen2
import Derived.Test.YtgeengkdgdjcjaaGreatFrames
import Derived.Test.YtgeengkdgdjcjaaGreatReopenP
import Derived.Test.YtgeengkdgdjcjaaGreatSealB
import Derived.Test.YtgeengkdgdjcjaaGreatBrkS
import Derived.Test.YtgeengkdgdjcjaaGreatReopen1
import Derived.Deep.CutRange
import Derived.Deep.Light
import Derived.Test.YtgeengkdgdjcjaaGreatReopen3
import Derived.Test.YtgeengkdgdjcjaaGreatMem
import Derived.Test.YtgeengkdgdjcjaaGreatDiskW
import Derived.Test.YtgeengkdgdjcjaaGreatRets
import Derived.Test.YtgeengkdgdjcjaaGreatHeadOps
import Derived.Test.YtgeengkdgdjcjaaGreatSpecR
import Derived.Test.YtgeengkdgdjcjaaGreatStoreL
import Derived.Test.YtgeengkdgdjcjaaGreatHashes
import Derived.Test.YtgeengkdgdjcjaaGreatLeaf
namespace Go.Proofs.YtgeengkdgdjcjaaGreat
set_option linter.unusedSimpArgs false
open Go.RowKit
set_option linter.unusedVariables false

set_option maxHeartbeats 4000000
set_option maxRecDepth 100000
theorem implReopen_any (n : Int) (A : Option Addr) (c : Nat) (l : List ByteArray) (w : World) (hr : ReadsL w w.heap.size sone 1 A l) (hl : l.length ≤ 1048576) (hsz : ∀ x ∈ l, x.size ≤ 1099511627776) :
 Calls Tryz.prog 14 #[.int .i64 n, .agg #[.slice A l.length c]] w (ReAns n l w) := by
 cases h : (inR n 1 32 && diskOk l)
 · refine (implReopen_no n A c l w hr hl h).mono ?_
   rintro e w' ⟨rfl, hx⟩
   exact ReAns.bad (re1 h) (by decide) rfl (World.ownsRow_nil _ _ _ _) hx
 · exact implReopen_yes n A c l w hr hl hsz h
def mendB (n : Int) (l : List ByteArray) : Bool := decide (reCode n l = 0) && decide ((reW n l).length = 0)
theorem implMended_any (n : Int) (A : Option Addr) (c : Nat) (l : List ByteArray) (w : World) (hr : ReadsL w w.heap.size sone 1 A l) (hl : l.length ≤ 1048576) (hsz : ∀ x ∈ l, x.size ≤ 1099511627776) :
 Calls Tryz.prog 17 #[.int .i64 n, .agg #[.slice A l.length c]] w fun e w' => e = .returned (.bool (mendB n l)) ∧ Ext w w' := by
 have K0 := Blk.new w 40 #[.slice A l.length c]
 have he := Ext.new (Below.refl w.heap.size w) (.cells #[.slice A l.length c] 40)
 have CL := hU (implReopen_any n A c l _ (hr.ext he) hl hsz)
 obtain ⟨kc, kf⟩ := K0.rules
 obtain ⟨fin, hfin⟩ : ∃ fin, fin = mendB n l := ⟨_, rfl⟩
 rw [← hfin]
 have FN := hU hfin
 clear hfin hr hsz
 go_enter Tryz.func17, Tryz.ntmps17
 go_wp2_with fail
 refine CL.out.mono ?_
 rintro e w1 ⟨ve, vr, vh, v1, v2, vw, rfl, hb, ha, ho, h1⟩
 replace he := he.next h1
 obtain ⟨b, hbb⟩ : ∃ b, b = reBB n l := ⟨_, rfl⟩
 obtain ⟨cc, hcc⟩ : ∃ cc, cc = reCode n l := ⟨_, rfl⟩
 obtain ⟨N, hN⟩ : ∃ N, N = (reW n l).length := ⟨_, rfl⟩
 rw [← hbb] at hb
 rw [← hN] at ho
 rw [← hbb, ← hcc]
 rw [mendB, ← hcc, ← hN] at FN
 obtain ⟨E0, e0, rfl, _⟩ := ownsRow_form hb.e
 obtain ⟨E1, e1, rfl, _⟩ := ownsRow_form hb.r
 obtain ⟨E2, e2, rfl, _⟩ := ownsRow_form hb.h
 obtain ⟨E3, e3, rfl, _⟩ := ownsRow_form hb.p
 obtain ⟨E4, e4, rfl, _⟩ := ownsRow_form hb.q
 obtain ⟨V, cv, rfl, _⟩ := ownsRow_form ho
 clear hbb hcc hN hb ha ho h1 CL K0 kc kf
 simp only [brkCs]
 have KV0 := Blk.new w1 37 #[.int .i64 0, .slice none 0 0, .slice none 0 0, .slice none 0 0, .int .i64 0, .slice none 0 0, .int .i64 0, .slice none 0 0, .int .i64 0, .int .i64 0, .string ⟨#[]⟩, .int .i64 0, .string ⟨#[]⟩]
 obtain ⟨w3, hw3, hx⟩ : ∃ w3, w3 = (w1.alloc (.cells #[.int .i64 0, .slice none 0 0, .slice none 0 0, .slice none 0 0, .int .i64 0, .slice none 0 0, .int .i64 0, .slice none 0 0, .int .i64 0, .int .i64 0, .string ⟨#[]⟩, .int .i64 0, .string ⟨#[]⟩] 37)).setCells w1.heap.size 0 [.int .i64 b.width, .slice E0 b.log.entries.length e0, .slice E1 b.receipts.length e1, .slice E2 b.heads.length e2, .int .i64 b.sealed.leaves.size, .slice E3 b.sealed.leaves.peaks.length e3, .int .i64 b.sealed.taken.size, .slice E4 b.sealed.taken.peaks.length e4, .int .i64 b.sealed.head.number, .int .i64 b.sealed.head.size, .string b.sealed.head.root, .int .i64 b.sealed.head.taken, .string b.sealed.head.takenRoot] ∧ Ext w w3 :=
  ⟨_, rfl, ext_setCells (W := w) (g := w1.heap.size) he.size [.int .i64 b.width, .slice E0 b.log.entries.length e0, .slice E1 b.receipts.length e1, .slice E2 b.heads.length e2, .int .i64 b.sealed.leaves.size, .slice E3 b.sealed.leaves.peaks.length e3, .int .i64 b.sealed.taken.size, .slice E4 b.sealed.taken.peaks.length e4, .int .i64 b.sealed.head.number, .int .i64 b.sealed.head.size, .string b.sealed.head.root, .int .i64 b.sealed.head.taken, .string b.sealed.head.takenRoot] 0 _ (he.new _)⟩
 have T4 := hU (KV0.there 0 13 (by simp))
 have HW := hU hw3; have HX := hU hx
 clear hw3 hx KV0 he
 go_upto_region 2 with (refine wpList_store_list rfl 37 _ _ rfl rfl w1.heap.size 0 [.int .i64 b.width, .slice E0 b.log.entries.length e0, .slice E1 b.receipts.length e1, .slice E2 b.heads.length e2, .int .i64 b.sealed.leaves.size, .slice E3 b.sealed.leaves.peaks.length e3, .int .i64 b.sealed.taken.size, .slice E4 b.sealed.taken.peaks.length e4, .int .i64 b.sealed.head.number, .int .i64 b.sealed.head.size, .string b.sealed.head.root, .int .i64 b.sealed.head.taken, .string b.sealed.head.takenRoot] rfl rfl T4.out (by kernel_rfl) (by rfl) ?_; rw [← HW.out])
 clear T4 HW
 rcases Nat.eq_zero_or_pos cc with z0 | z0
 · have z1 : ((cc : Int) == 0) = true := beq_iff_eq.2 (by omega)
   rcases Nat.eq_zero_or_pos N with y0 | y0
   · have y1 : ((N : Int) == 0) = true := beq_iff_eq.2 (by omega)
     have E := hU (show fin = true by rw [FN.out, decide_eq_true z0, decide_eq_true y0]; rfl)
     clear z0 y0
     go_wp2_with fail
     go_ret
     exact ⟨ret_bool E.out.symm, HX.out⟩
   · have y1 : ((N : Int) == 0) = false := beq_false_of_ne (by omega)
     have E := hU (show fin = false by rw [FN.out, decide_eq_true z0, decide_eq_false (by omega)]; rfl)
     clear z0 y0
     go_wp2_with fail
     go_ret
     exact ⟨ret_bool E.out.symm, HX.out⟩
 · have z1 : ((cc : Int) == 0) = false := beq_false_of_ne (by omega)
   have E := hU (show fin = false by rw [FN.out, decide_eq_false (by omega)]; rfl)
   clear z0
   go_wp2_with fail
   go_ret
   exact ⟨ret_bool E.out.symm, HX.out⟩
end Go.Proofs.YtgeengkdgdjcjaaGreat
namespace Go.Proofs.YtgeengkdgdjcjaaGreat
set_option linter.unusedSimpArgs false
open Go.RowKit Go.WideShapes Go.ChangeAt
set_option linter.unusedVariables false
theorem byte9_typed {w : World} {n : Nat} {cs : List Value} (h : Typed Tryz.prog w n 5 cs) : ∃ x, cs = byteC x ∧ ByteIn x := by
 obtain ⟨m, rfl, hw⟩ := typed_int Tryz.underlying5 h
 refine ⟨m, rfl, ?_⟩
 simp [Lit.wf, IntKind.min, IntKind.max, IntKind.signed, IntKind.bits] at hw
 exact ⟨by omega, by omega⟩
theorem big9_any (A : Option Addr) (n c : Nat) (w : World) (h : n ≤ maxLen) : Calls Tryz.prog 8 #[.slice A n c] w fun e w' => e = .returned (.bool (decide (1048576 < n))) ∧ w = w' := by
 by_cases hb : 1048576 < n
 · have hd : decide (1048576 < n) = true := decide_eq_true hb
   rw [hd]
   go_enter Tryz.func8, Tryz.ntmps8
   go_wp2_with fail
   go_ret
   exact ⟨ret_bool (by simp; omega), rfl⟩
 · have hd : decide (1048576 < n) = false := decide_eq_false hb
   rw [hd]
   go_enter Tryz.func8, Tryz.ntmps8
   go_wp2_with fail
   go_ret
   exact ⟨ret_bool (by simp; omega), rfl⟩
theorem again_W {b : BrokerD} (hB : brokerB b = true) : reBB b.width (diskT b) = b ∧ reW b.width (diskT b) = [] ∧ reCode b.width (diskT b) = 0 ∧ mendB b.width (diskT b) = true := by
 obtain ⟨h1, h2, h3⟩ := disk_again hB
 have e1 : reW b.width (diskT b) = [] := by rw [reW, if_pos h2, h3]; rfl
 exact ⟨by rw [reBB, if_pos h2, h1], e1, h2, by rw [mendB, h2, e1]; rfl⟩
theorem disk_small {b : BrokerD} (hB : brokerB b = true) : ∀ x ∈ diskT b, x.size ≤ 1099511627776 := by
 intro x hx
 have f0 := (file_unf hB 0).2; have f1 := (file_unf hB 1).2; have f2 := (file_unf hB 2).2
 simp only [diskT, List.mem_cons, List.not_mem_nil, or_false] at hx
 rcases hx with rfl | rfl | rfl <;> omega
end Go.Proofs.YtgeengkdgdjcjaaGreat
namespace Go.Proofs.YtgeengkdgdjcjaaGreat
set_option maxHeartbeats 2000000
set_option maxRecDepth 100000
set_option linter.unusedSimpArgs false
open Go.RowKit
set_option linter.unusedVariables false
theorem l01PickInt_any (B g p : Nat) (A : Option Addr) (c cp : Nat) (l : List Int) (ts : List Int) (w : World) (hpos : 0 < ts.length) (hts : ts.length ≤ 256) (hpg : p ≠ g) (hp : Blk w p 3 (ts.map (Value.int .i64)).toArray) (hC : CurAt w B g A c l) :
 Calls Tryz.prog 50 #[.pointer (some ⟨g, 0, none⟩), .slice (some ⟨p, 0, none⟩) ts.length cp] w fun e w' => ∃ t ∈ ts, e = .returned (.int .i64 t) ∧ CurAt w' B g A c l ∧ ExtBut g w w' := by
 go_enter Tryz.func50, Tryz.ntmps50
 go_wp2_with fail
 refine (l01Below_any B g A c l _ _ (by omega) (by omega) hC).mono ?_
 rintro e w1 ⟨x, ⟨hx0, hx1⟩, rfl, h1, k1⟩
 obtain ⟨k, rfl⟩ : ∃ k : Nat, x = (k : Int) := ⟨x.toNat, by omega⟩
 have hk : k < ts.length := by omega
 have hp1 := hp.extBut k1 hpg
 have c0 : w1.cell? ⟨p, k, none⟩ = some (.int .i64 ts[k]) := by rw [hp1.cell]; simp [hk]
 have c1 : w1.cell? ⟨p, 0 + k * 1, none⟩ = some (.int .i64 ts[k]) := by rw [Nat.mul_one, Nat.zero_add]; exact c0
 have hm := List.getElem_mem hk
 have hw : IntKind.i64.wrap (k : Int) = (k : Int) := IntWalk.i64_in _ (by omega)
 clear hp1 hp
 generalize ts[k] = t at *
 go_wp2_with fail
 go_ret
 exact ⟨t, hm, rfl, h1, k1⟩
set_option maxHeartbeats 4000000
def ivs (xs : List Int) : List Value := xs.map (Value.int .i64)
theorem ivs_snoc (xs : List Int) (y : Int) : ivs xs ++ [.int .i64 y] = ivs (xs ++ [y]) := by simp [ivs]
theorem DrawPlaces_any (A : Option Addr) (c : Nat) (l : List Int) (w : World) (hlen : l.length ≤ maxLen) (hin : ∀ x ∈ l, ByteIn x) (hr : ReadsL w w.heap.size byteC 1 A l) :
 Calls Tryz.prog 11 #[.slice A l.length c] w fun e w' => ∃ (v : Value) (xs : List Int), e = .returned v ∧ xs.length = 12 ∧ (∀ y ∈ xs, 0 ≤ y ∧ y < 10000) ∧ w'.ownsRow w.heap.size 3 1 v 12 (ivs xs) ∧ Ext w w' := by
 obtain ⟨i0, hi, hz0, hz1, hz2⟩ := info_parts info_int
 have NW := hU (l01New_any w.heap.size A c l _ (Nat.le_refl _) hlen hin hr)
 clear hin hr
 go_enter Tryz.func11, Tryz.ntmps11
 go_wp2_with fail
 refine NW.out.mono ?_
 rintro e w1 ⟨g, hgw, rfl, hc, he⟩
 clear NW
 go_wp2_with fail
 refine (l01Byte_any _ g A c l _ hc).mono ?_
 rintro e w2 ⟨x0, _, rfl, hc, k1⟩
 replace he := he.nextBut hgw k1
 clear k1
 go_upto_region 5 with fail
 have H0 := hU (show (w2.alloc (.cells #[] 3)).ownsRow w2.heap.size 3 1 (.slice (some ⟨w2.heap.size, 0, none⟩) 0 0) 0 (ivs []) from ownsRow_empty w2 3 1)
 have H1 := hU (hc.alloc (.cells #[] 3))
 have HE := hU ((ExtBut.refl g w2).alloc (.cells #[] 3))
 have hg := hc.lt
 have HX := hU he
 have hs2 := he.size
 clear hc he
 obtain ⟨K, hK⟩ : ∃ K, K = w2.heap.size := ⟨_, rfl⟩
 have HK := hU hK
 rw [← hK] at H0 hg hs2
 rw [← hK]
 clear hK
 go_loopw [4, 5] (fun v x wr => ∃ (k : Nat) (xs : List Int), k ≤ 12 ∧ xs.length = k ∧ x = .int .i64 (k : Int) ∧ (∀ y ∈ xs, 0 ≤ y ∧ y < 10000) ∧ wr.ownsRow K 3 1 v k (ivs xs) ∧ CurAt wr w.heap.size g A c l ∧ ExtBut g w2 wr) (fun _ x _ => 12 - (intOf x).toNat)
 case atStart => exact ⟨0, [], Nat.zero_le _, rfl, rfl, by simp, H0.out, H1.out, HE.out⟩
 case round =>
  clear H0 H1 HE
  obtain ⟨k, xs, hk, hxl, rfl, hxb, hown, hcur, he⟩ := hrel
  obtain ⟨A', c', rfl, hnc'⟩ := ownsRow_form hown
  have KO := hU hown
  clear hown
  by_cases hlt : k < 12
  · have hkz : (k : Int) < 12 := by omega
    go_wp2_with fail
    refine (l01Below_any _ g A c l 10000 _ (by decide) (by decide) hcur).mono ?_
    rintro e w4 ⟨y, ⟨hy0, hy1⟩, rfl, h1, k1⟩
    have KO1 := hU (ownsRow_but KO.out k1 hg)
    have he1 := hU (he.next k1)
    have HC1 := hU h1
    have Hn := hU (ivs_snoc xs y)
    have Hb := hU (show ∀ z ∈ xs ++ [y], 0 ≤ z ∧ z < 10000 by
     intro z hz
     rcases List.mem_append.1 hz with h | h
     · exact hxb z h
     · obtain rfl := List.mem_singleton.1 h; omega)
    clear KO he h1 k1 hcur hxb
    go_wp2_with (at_builtin; refine wpList_append_own _ rfl _ _ 43 rfl K 3 i0 _ 1 8 Tryz.underlying43 hi hz0 hz1 hz2 rfl (by decide) _ _ _ rfl (KO1.out.alloc _) ⟨w4.heap.size, 0, none⟩ 1 1 [.int .i64 y] rfl rfl ?c1 ?c2 ?c3 ?c4 ?c5 ?_)
    case c1 => exact one_at _ _ _
    case c2 => exact one_cell rfl
    case c3 => unfold maxLen; omega
    case c4 => omega
    case c5 => have := he1.out.size; have := HK.out; simp; omega
    intro v' w5 hown' hgrow _
    have hK1 : K ≤ (w4.alloc (.cells #[.int .i64 y] 3)).heap.size := by have := he1.out.size; have := HK.out; simp; omega
    have he2 := (he1.out.alloc (.cells #[.int .i64 y] 3)).ownGrown (by have := HK.out; omega) (KO1.out.alloc _) hgrow
    have hc2 := (HC1.out.alloc (.cells #[.int .i64 y] 3)).ownGrown hg hK1 (KO1.out.alloc _) hgrow
    rw [Hn.out] at hown'
    obtain ⟨A'', c'', rfl, _⟩ := ownsRow_form hown'
    have KO' := hU hown'
    clear hown' hgrow KO1 he1 HC1
    go_wp2_with fail
    go_roundw
    case rel => exact ⟨k + 1, xs ++ [y], by omega, by simp [hxl], by go_num, Hb.out, KO'.out, hc2, he2⟩
    case measure => simp [intOf]; omega
  · obtain rfl : k = 12 := by omega
    have HB := hU hxb; have HL := hU hxl
    clear hxb hxl
    go_wp2_with fail
    go_ret
    exact ⟨_, xs, rfl, HL.out, HB.out, ownsRow_base KO.out hs2, HX.out.nextBut hgw he⟩
theorem DrawFrame_any (A : Option Addr) (c : Nat) (l : List Int) (w : World) (hlen : l.length ≤ maxLen) (hin : ∀ x ∈ l, ByteIn x) (hr : ReadsL w w.heap.size byteC 1 A l) :
 Calls Tryz.prog 12 #[.slice A l.length c] w fun e w' => ∃ s : ByteArray, s.size ≤ 5000 ∧ e = .returned (.string s) ∧ Ext w w' := by
 have NW := hU (l01New_any w.heap.size A c l _ (Nat.le_refl _) hlen hin hr)
 clear hin hr
 go_enter Tryz.func12, Tryz.ntmps12
 go_wp2_with fail
 refine NW.out.mono ?_
 rintro e w1 ⟨g, hgw, rfl, hc, he⟩
 clear NW
 go_wp2_with fail
 refine (l01Below_any _ g A c l 30 _ (by decide) (by decide) hc).mono ?_
 rintro e w2 ⟨x, ⟨x0, x1⟩, rfl, hc, k1⟩
 replace he := he.nextBut hgw k1
 obtain ⟨n, rfl⟩ : ∃ n : Nat, x = (n : Int) := ⟨x.toNat, by omega⟩
 clear k1
 go_wp2_with fail
 refine (l01Once_any _ g A c l 10 _ (by decide) (by decide) hc).mono ?_
 rintro e w3 ⟨b, rfl, hc, k1⟩
 replace he := he.nextBut hgw k1
 clear k1
 have HE := hU he
 have HC := hU hc
 cases b
 · clear hc he
   go_wp2_with fail
   refine (l01Text_any _ g A c l n _ (by omega) HC.out).mono ?_
   rintro e w4 ⟨s, hs, rfl, hc, k1⟩
   have H4 := hU (HE.out.nextBut hgw k1)
   clear k1 hc
   go_wp2_with fail
   go_ret
   exact ⟨s, by omega, rfl, H4.out⟩
 · have hgl := hc.lt
   clear hc he
   go_wp2_with fail
   refine (l01PickInt_any _ g w3.heap.size A c _ l [0, 1, 255, 256, 1000, 1001] _ (by decide) (by decide) (by omega) (Blk.new _ _ _) (HC.out.alloc _)).mono ?_
   rintro e w4 ⟨m, hm, rfl, hc, k1⟩
   have H4 := hU ((HE.out.new (.cells #[.int .i64 0, .int .i64 1, .int .i64 255, .int .i64 256, .int .i64 1000, .int .i64 1001] 3)).nextBut hgw k1)
   have hm2 : 0 ≤ m ∧ m ≤ 5000 := by simp only [List.mem_cons, List.not_mem_nil, or_false] at hm; omega
   obtain ⟨k, rfl⟩ : ∃ k : Nat, m = (k : Int) := ⟨m.toNat, by omega⟩
   have HC4 := hU hc
   clear hm hc k1
   go_wp2_with fail
   refine (l01Text_any _ g A c l k _ (by omega) HC4.out).mono ?_
   rintro e w5 ⟨s, hs, rfl, hc, k1⟩
   have H5 := hU (H4.out.nextBut hgw k1)
   clear k1 hc
   go_wp2_with fail
   go_ret
   exact ⟨s, by omega, rfl, H5.out⟩
theorem fits_good (q c k p : Nat) (s t : ByteArray) (w : World) (hc : w.cell? ⟨q, k, none⟩ = some (.string s)) (hq : q < w.heap.size) (hk : k < 3) (ha : p ≤ s.size) (hs : s.size ≤ 300000) (ht : t.size + p ≤ 300000) :
 Calls Tryz.prog 65 #[.agg #[.slice (some ⟨q, 0, none⟩) 3 c], .agg #[.int .i64 (k : Int), .int .i64 (p : Int), .string t]] w fun e w' => e = .returned (.bool true) ∧ Ext w w' := by
 obtain ⟨B0, B1, he⟩ := two_blks w #[.slice (some ⟨q, 0, none⟩) 3 c] #[.int .i64 (k : Int), .int .i64 (p : Int), .string t] 40 63
 have I1 : inR (k : Int) 0 2 = true := by simp [inR]; omega
 have I2 : inR (p : Int) 0 (s.size : Int) = true := by simp [inR]; omega
 have HC := hU ((he.cell (p := ⟨q, k, none⟩) hq).trans hc)
 have K0 := hU B0; have K1 := hU B1; have HE := hU he
 have hq1 : q < ((w.alloc (.cells #[.slice (some ⟨q, 0, none⟩) 3 c] 40)).alloc (.cells #[.int .i64 (k : Int), .int .i64 (p : Int), .string t] 63)).heap.size := Nat.lt_of_lt_of_le hq he.size
 obtain ⟨g, hg⟩ : ∃ g, g = w.heap.size := ⟨_, rfl⟩
 clear B0 B1 hc he
 have C1 := hU (fun W => inRange_any (k : Int) 0 2 W)
 have C2 := hU (fun W => inRange_any (p : Int) 0 (s.size : Int) W)
 rw [I1] at C1
 rw [I2] at C2
 have e9 : (300000 : Int) - (p : Int) = ((300000 - p : Nat) : Int) := by omega
 have e8 : IntKind.i64.wrap ((300000 - p : Nat) : Int) = ((300000 - p : Nat) : Int) := IntWalk.i64_in _ (by omega)
 have e7 : t.size ≤ 300000 - p := by omega
 have ew2 : IntKind.i64.wrap 2 = 2 := by decide
 have hk3 : (k : Int) < 3 := by omega
 have hk4 : ¬ (3 : Int) ≤ (k : Int) := by omega
 clear I1 I2
 go_enter Tryz.func65, Tryz.ntmps65
 go_upto_region 1 with fail
 obtain ⟨w1, hw1⟩ : ∃ w1, w1 = (w.alloc (.cells #[.slice (some ⟨q, 0, none⟩) 3 c] 40)).alloc (.cells #[.int .i64 (k : Int), .int .i64 (p : Int), .string t] 63) := ⟨_, rfl⟩
 rw [← hw1] at HC K0 K1 HE hq1
 rw [← hw1]
 rw [← hg] at K0 K1
 rw [← hg]
 clear hw1 hg
 refine wp_region_held_drew (S := fun w' => Ext w1 w') (by kernel_rfl) (Below.refl _ _).drew (fun hH => ?_)
 refine takeQ 0 (.pointer (some ⟨g + 1, 0, none⟩)) (some 5) rfl rfl (by kernel_rfl) (Or.inl ⟨by rfl, ?yf1⟩) hH ?rf1
 case yf1 => intro w' hS'; go_simp; try with_reducible rfl
 try simp only [zA]
 refine takeQ 1 (.int .i64 (k : Int)) (some 6) rfl rfl (by kernel_rfl) (Or.inl ⟨by rfl, ?yf2⟩) hH ?rf2
 case yf2 => intro w' hS'; obtain ⟨r0, f0⟩ := (K0.out.ext hS').rules; obtain ⟨r1, f1⟩ := (K1.out.ext hS').rules; have cq := (hS'.cell (p := ⟨q, k, none⟩) hq1).trans HC.out; go_simp; try with_reducible rfl
 try simp only [zA]
 refine takeQ 2 (.pointer (some ⟨g, 0, none⟩)) (some 7) rfl rfl (by kernel_rfl) (Or.inl ⟨by rfl, ?yf3⟩) hH ?rf3
 case yf3 => intro w' hS'; go_simp; try with_reducible rfl
 try simp only [zA]
 refine takeQ 3 (.slice (some ⟨q, 0, none⟩) 3 c) (some 8) rfl rfl (by kernel_rfl) (Or.inl ⟨by rfl, ?yf4⟩) hH ?rf4
 case yf4 => intro w' hS'; obtain ⟨r0, f0⟩ := (K0.out.ext hS').rules; obtain ⟨r1, f1⟩ := (K1.out.ext hS').rules; have cq := (hS'.cell (p := ⟨q, k, none⟩) hq1).trans HC.out; go_simp; try with_reducible rfl
 try simp only [zA]
 refine takeQ 4 (.int .i64 (3 : Int)) (some 9) rfl rfl (by kernel_rfl) (Or.inl ⟨by rfl, ?yf5⟩) hH ?rf5
 case yf5 => intro w' hS'; obtain ⟨r0, f0⟩ := (K0.out.ext hS').rules; obtain ⟨r1, f1⟩ := (K1.out.ext hS').rules; have cq := (hS'.cell (p := ⟨q, k, none⟩) hq1).trans HC.out; go_simp; try with_reducible rfl
 try simp only [zA]
 refine takeQ 5 (.int .i64 2) (some 10) rfl rfl (by kernel_rfl) (Or.inl ⟨by rfl, ?yf6⟩) hH ?rf6
 case yf6 => intro w' hS'; obtain ⟨r0, f0⟩ := (K0.out.ext hS').rules; obtain ⟨r1, f1⟩ := (K1.out.ext hS').rules; have cq := (hS'.cell (p := ⟨q, k, none⟩) hq1).trans HC.out; go_simp; try with_reducible rfl
 try simp only [zA]
 refine oneH 6 (oi := _) (some 11) (by kernel_rfl) rfl rfl rfl (fun K' hK => ?_)
 refine ⟨?_⟩
 rw [if_pos (by rfl)]
 go_simp
 refine (C1.out _).mono ?_
 rintro e w2 ⟨rfl, rfl⟩
 refine hK.out _ _ ⟨_, rfl⟩ (hH) (fun hH2 => ?_)
 clear hK K' hH
 have hH := hH2
 clear hH2
 try simp only [zB]
 refine takeQ 7 (.bool false) (some 12) rfl rfl (by kernel_rfl) (Or.inl ⟨by rfl, ?yf7⟩) hH ?rf7
 case yf7 => intro w' hS'; go_simp; try with_reducible rfl
 try simp only [zA]
 refine takeQ 8 (.bool false) (some 13) rfl rfl (by kernel_rfl) (Or.inl ⟨by rfl, ?yf8⟩) hH ?rf8
 case yf8 => intro w' hS'; go_simp; try with_reducible rfl
 try simp only [zA]
 refine takeQ 9 (.pointer (some ⟨g + 1, 1, none⟩)) (some 14) rfl rfl (by kernel_rfl) (Or.inl ⟨by rfl, ?yf9⟩) hH ?rf9
 case yf9 => intro w' hS'; go_simp; try with_reducible rfl
 try simp only [zA]
 refine takeQ 10 (.int .i64 (p : Int)) (some 15) rfl rfl (by kernel_rfl) (Or.inl ⟨by rfl, ?yf10⟩) hH ?rf10
 case yf10 => intro w' hS'; obtain ⟨r0, f0⟩ := (K0.out.ext hS').rules; obtain ⟨r1, f1⟩ := (K1.out.ext hS').rules; have cq := (hS'.cell (p := ⟨q, k, none⟩) hq1).trans HC.out; go_simp; try with_reducible rfl
 try simp only [zA]
 refine takeQ 11 (.pointer (some ⟨g, 0, none⟩)) (some 16) rfl rfl (by kernel_rfl) (Or.inl ⟨by rfl, ?yf11⟩) hH ?rf11
 case yf11 => intro w' hS'; go_simp; try with_reducible rfl
 try simp only [zA]
 refine takeQ 12 (.slice (some ⟨q, 0, none⟩) 3 c) (some 17) rfl rfl (by kernel_rfl) (Or.inl ⟨by rfl, ?yf12⟩) hH ?rf12
 case yf12 => intro w' hS'; obtain ⟨r0, f0⟩ := (K0.out.ext hS').rules; obtain ⟨r1, f1⟩ := (K1.out.ext hS').rules; have cq := (hS'.cell (p := ⟨q, k, none⟩) hq1).trans HC.out; go_simp; try with_reducible rfl
 try simp only [zA]
 refine takeQ 13 (.pointer (some ⟨g + 1, 0, none⟩)) (some 18) rfl rfl (by kernel_rfl) (Or.inl ⟨by rfl, ?yf13⟩) hH ?rf13
 case yf13 => intro w' hS'; go_simp; try with_reducible rfl
 try simp only [zA]
 refine takeQ 14 (.int .i64 (k : Int)) (some 19) rfl rfl (by kernel_rfl) (Or.inl ⟨by rfl, ?yf14⟩) hH ?rf14
 case yf14 => intro w' hS'; obtain ⟨r0, f0⟩ := (K0.out.ext hS').rules; obtain ⟨r1, f1⟩ := (K1.out.ext hS').rules; have cq := (hS'.cell (p := ⟨q, k, none⟩) hq1).trans HC.out; go_simp; try with_reducible rfl
 try simp only [zA]
 refine takeQ 15 (.pointer (some ⟨q, k, none⟩)) (some 20) rfl rfl (by kernel_rfl) (Or.inl ⟨by rfl, ?yf15⟩) hH ?rf15
 case yf15 => intro w' hS'; go_simp; try with_reducible rfl
 try simp only [zA]
 refine takeQ 16 (.string s) (some 21) rfl rfl (by kernel_rfl) (Or.inl ⟨by rfl, ?yf16⟩) hH ?rf16
 case yf16 => intro w' hS'; obtain ⟨r0, f0⟩ := (K0.out.ext hS').rules; obtain ⟨r1, f1⟩ := (K1.out.ext hS').rules; have cq := (hS'.cell (p := ⟨q, k, none⟩) hq1).trans HC.out; go_simp; try with_reducible rfl
 try simp only [zA]
 refine takeQ 17 (.int .i64 (s.size : Int)) (some 22) rfl rfl (by kernel_rfl) (Or.inl ⟨by rfl, ?yf17⟩) hH ?rf17
 case yf17 => intro w' hS'; obtain ⟨r0, f0⟩ := (K0.out.ext hS').rules; obtain ⟨r1, f1⟩ := (K1.out.ext hS').rules; have cq := (hS'.cell (p := ⟨q, k, none⟩) hq1).trans HC.out; go_simp; try with_reducible rfl
 try simp only [zA]
 refine oneHw 18 (oi := _) (some 23) (by kernel_rfl) rfl (by rfl) rfl (fun K' hK => ?_)
 refine ⟨?_⟩
 rw [if_pos (by rfl)]
 go_simp
 refine (C2.out _).mono ?_
 rintro e w2 ⟨rfl, rfl⟩
 refine hK.out _ _ ⟨_, rfl⟩ (hH) (fun hH2 => ?_)
 clear hK K' hH
 have hH := hH2
 clear hH2
 try simp only [zB]
 refine takeQ 19 (.bool false) (some 24) rfl rfl (by kernel_rfl) (Or.inl ⟨by rfl, ?yf18⟩) hH ?rf18
 case yf18 => intro w' hS'; go_simp; try with_reducible rfl
 try simp only [zA]
 refine takeQ 20 (.bool false) (some 25) rfl rfl (by kernel_rfl) (Or.inl ⟨by rfl, ?yf19⟩) hH ?rf19
 case yf19 => intro w' hS'; go_simp; try with_reducible rfl
 try simp only [zA]
 have h1 := hH
 clear hH
 refine wpAnyH_done (by kernel_rfl) ?_ _
 obtain ⟨r1, f1⟩ := (K1.out.ext h1).rules
 have HX := hU (HE.out.next h1)
 clear h1
 go_wp2_with fail
 go_ret
 first | exact ⟨rfl, HX.out⟩ | exact ⟨ret_bool (by simp), HX.out⟩ | exact ⟨ret_bool (by simp; omega), HX.out⟩
theorem put_good (gd q c k p : Nat) (s t : ByteArray) (cur : Array Value) (w : World) (hd : Blk w gd 40 #[.slice (some ⟨q, 0, none⟩) 3 c]) (hq : Blk w q 9 cur) (hne : gd ≠ q) (hc : cur[k]? = some (.string s)) (hk : k < 3) (ha : p ≤ s.size) (hs : s.size ≤ 300000) (ht : t.size + p ≤ 300000) :
 Calls Tryz.prog 66 #[.pointer (some ⟨gd, 0, none⟩), .agg #[.int .i64 (k : Int), .int .i64 (p : Int), .string t]] w fun e w' => ∃ v, e = .returned v ∧ Blk w' q 9 (cur.setIfInBounds k (.string (s.extract 0 p ++ t))) ∧ ExtBut q w w' := by
 have B0 := Blk.new w 63 #[.int .i64 (k : Int), .int .i64 (p : Int), .string t]
 have he := Ext.new (Below.refl w.heap.size w) (.cells #[.int .i64 (k : Int), .int .i64 (p : Int), .string t] 63)
 have K0 := hU B0; have KD := hU (hd.ext he); have KQ := hU (hq.ext he); have HE := hU he
 have hql := hq.lt
 obtain ⟨g, hg⟩ : ∃ g, g = w.heap.size := ⟨_, rfl⟩
 clear B0 hd hq he
 go_enter Tryz.func66, Tryz.ntmps66
 go_upto_region 1 with fail
 obtain ⟨w1, hw1⟩ : ∃ w1, w1 = w.alloc (.cells #[.int .i64 (k : Int), .int .i64 (p : Int), .string t] 63) := ⟨_, rfl⟩
 rw [← hw1] at K0 KD KQ HE
 rw [← hw1]
 rw [← hg] at K0 hql
 rw [← hg]
 clear hw1
 have hgw : w.heap.size ≤ g := by omega
 clear hg
 obtain ⟨r0, f0⟩ := K0.out.rules
 obtain ⟨r1, f1⟩ := KD.out.rules
 have cq : w1.cell? ⟨q, k, none⟩ = some (.string s) := (KQ.out.cell k).trans hc
 have cf := KQ.out.frozen k
 have hk3 : (k : Int) < 3 := by omega
 have hk4 : ¬ (3 : Int) ≤ (k : Int) := by omega
 have hps : (p : Int) ≤ (s.size : Int) := by omega
 have hzk : (0 : Int) ≤ (k : Int) := by omega
 have hcat : ¬ 9223372036854775807 < p + t.size := by omega
 go_still_tail 20, (by kernel_rfl)
 change wpList _ _ _ _ _ w1.drew
 generalize hwd : w1.drew = wd
 have KQ2 := hU (show Blk wd q 9 cur by rw [← hwd]; exact KQ.out.drew)
 have E2 := hU (show Ext w wd by rw [← hwd]; exact HE.out.drew)
 have cq2 : wd.cell? ⟨q, k, none⟩ = some (.string s) := by rw [← hwd]; exact cq
 have cf2 := KQ2.out.frozen k
 clear hwd r0 f0 r1 f1 cq cf
 have Z1 := hU (KQ2.out.set_ k (.string (s.extract 0 p ++ t)))
 have Z2 := hU (show ExtBut q w (wd.setCell ⟨q, k, none⟩ (.string (s.extract 0 p ++ t))) from ExtBut.set_ (ExtBut.of_ext E2.out) k (.string (s.extract 0 p ++ t)))
 go_wp2_with fail
 exact bodyPost_end (results_none rfl _ _ _) rfl ⟨⟨_, rfl⟩, Z1.out, Z2.out⟩
theorem copyDisk_any (A : Option Addr) (c : Nat) (l : List ByteArray) (w : World) (hr : SlF AnyB sone 1 w A l c) (hl : l.length ≤ 1048576) :
 Calls Tryz.prog 64 #[.agg #[.slice A l.length c]] w fun e w' => ∃ v, e = .returned (.agg #[v]) ∧ w'.ownsRow w.heap.size 9 1 v l.length (l.flatMap sone) ∧ Ext w w' := by
 obtain ⟨B0, B1, he⟩ := two_new w #[.slice A l.length c] #[.slice none 0 0] 40 40
 have CL := hU (Clone_Text A c l _ (hr.ext he) hl)
 obtain ⟨r0, f0⟩ := B0.rules
 have K1 := hU B1; have HE := hU he
 have hs := he.size
 have h1l := B1.lt
 clear B0 B1 he hr
 go_enter Tryz.func64, Tryz.ntmps64
 go_wp2_with fail
 refine CL.out.mono ?_
 rintro e w2 ⟨v, rfl, ho, h1⟩
 obtain ⟨V, vc, rfl, _⟩ := ownsRow_form ho
 have K2 := K1.out.ext h1
 have Z1 := hU (K2.put 0 [.slice V l.length vc] #[.slice V l.length vc] (by simp) rfl)
 have Z2 := hU (ext_setCells (W := w) (g := w.heap.size + 1) (by omega) [.slice V l.length vc] 0 _ (HE.out.next h1))
 have Z3 := hU (ownsRow_base (B' := w.heap.size) (ownsRow_far ho (grow_setCells (w.heap.size + 1) [.slice V l.length vc] 0 w2 w2 (World.grownBy.refl _ _)) h1l) hs)
 obtain ⟨r1, f1⟩ := K2.rules
 clear K2 ho h1
 go_wp2_with fail
 exact ret_row rfl rfl Z1.out Tryz.underlying40 rfl (by kernel_rfl) rfl ⟨_, rfl, Z3.out, Z2.out⟩
set_option maxHeartbeats 8000000
theorem flat_sone (l : List ByteArray) : l.flatMap sone = l.map Value.string := by
 induction l with
 | nil => rfl
 | cons x r ih => simp only [List.flatMap_cons, List.map_cons, ih]; rfl
theorem take_set3 {cur : Array Value} {l : List ByteArray} {k : Nat} {u : ByteArray} (h : cur.toList.take 3 = l.flatMap sone) (hk : k < 3) : (cur.setIfInBounds k (.string u)).toList.take 3 = (l.set k u).flatMap sone := by
 rw [flat_sone] at h ⊢
 rw [Array.toList_setIfInBounds, List.take_set, h, List.map_set]
theorem cur_at {cur : Array Value} {l : List ByteArray} {k : Nat} {s : ByteArray} (h : cur.toList.take 3 = l.flatMap sone) (hk : k < 3) (hs : l[k]? = some s) : cur[k]? = some (.string s) := by
 have h1 : (cur.toList.take 3)[k]? = some (.string s) := by rw [h, flat_sone, List.getElem?_map, hs]; rfl
 rw [List.getElem?_take_of_lt hk, Array.getElem?_toList] at h1
 exact h1
theorem PutAll_one (q c k p : Nat) (l : List ByteArray) (s t : ByteArray) (V : Option Addr) (vc : Nat) (w : World) (hl3 : l.length = 3) (hok : diskOk l = true) (hr : SlF AnyB sone 1 w (some ⟨q, 0, none⟩) l c) (hw : ReadsL w w.heap.size WriteD.cells 3 V [⟨(k : Int), (p : Int), t⟩]) (hk : k < 3) (hs : l[k]? = some s) (ha : p ≤ s.size) (h3 : s.size ≤ 300000) (ht : t.size + p ≤ 300000) :
 Calls Tryz.prog 16 #[.agg #[.slice (some ⟨q, 0, none⟩) 3 c], .slice V 1 vc] w fun e w' => ∃ (q' c' : Nat) (cur : Array Value), e = .returned (.tuple #[.agg #[.slice (some ⟨q', 0, none⟩) 3 c'], .int .i64 1]) ∧ Blk w' q' 9 cur ∧ cur.toList.take 3 = (l.set k (s.extract 0 p ++ t)).flatMap sone ∧ w.heap.size ≤ q' ∧ Ext w w' := by
 obtain ⟨B0, B1, he⟩ := two_new w #[.slice (some ⟨q, 0, none⟩) 3 c] #[.slice none 0 0] 40 40
 have DO := hU (fun (W : World) (h : Ext w W) => implDiskOk_any (some ⟨q, 0, none⟩) c l W (hr.ext h).reads (by omega))
 have CD := hU (fun (W : World) (h : Ext w W) => copyDisk_any (some ⟨q, 0, none⟩) c l W (hr.ext h) (by omega))
 rw [hl3, hok] at DO
 rw [hl3] at CD
 obtain ⟨b0, off, rfl, hb0, hc⟩ := Reads.at_ hw (k := 0) (by simp)
 have y0 : w.cell? ⟨b0, off, none⟩ = some (.int .i64 (k : Int)) := hc 0 _ rfl
 have y1 : w.cell? ⟨b0, off + 1, none⟩ = some (.int .i64 (p : Int)) := by have := hc 1 (.int .i64 (p : Int)) rfl; simpa using this
 have y2 : w.cell? ⟨b0, off + 2, none⟩ = some (.string t) := by have := hc 2 (.string t) rfl; simpa using this
 have Y : Hid (∀ W, Ext w W → W.cell? ⟨b0, off, none⟩ = some (.int .i64 (k : Int)) ∧ W.cell? ⟨b0, off + 1, none⟩ = some (.int .i64 (p : Int)) ∧ W.cell? ⟨b0, off + 2, none⟩ = some (.string t)) := hU (fun W h => ⟨(h.cell (p := ⟨b0, off, none⟩) hb0).trans y0, (h.cell (p := ⟨b0, off + 1, none⟩) hb0).trans y1, (h.cell (p := ⟨b0, off + 2, none⟩) hb0).trans y2⟩)
 have HS := hU hs
 clear hr hw hc y0 y1 y2 hl3 hok hs
 obtain ⟨g2, hg2⟩ : ∃ g2, g2 = w.heap.size := ⟨_, rfl⟩
 obtain ⟨g4, hg4⟩ : ∃ g4, g4 = w.heap.size + 1 := ⟨_, rfl⟩
 go_enter Tryz.func16, Tryz.ntmps16
 go_upto_region 1 with fail
 obtain ⟨w1, hw1⟩ : ∃ w1, w1 = (w.alloc (.cells #[.slice (some ⟨q, 0, none⟩) 3 c] 40)).alloc (.cells #[.slice none 0 0] 40) := ⟨_, rfl⟩
 rw [← hw1] at B0 B1 he
 rw [← hw1]
 rw [← hg4] at B1
 rw [← hg2] at B0
 rw [← hg4, ← hg2]
 have hw4 : w.heap.size ≤ g4 := by omega
 clear hw1 hg2 hg4
 obtain ⟨r0, f0⟩ := B0.rules
 go_wp2_with fail
 refine (DO.out _ he).mono ?_
 rintro e w2 ⟨rfl, h1⟩
 replace B0 := B0.ext h1; replace B1 := B1.ext h1; replace he := he.next h1
 clear h1 DO r0 f0
 obtain ⟨r0, f0⟩ := B0.rules
 go_wp2_with fail
 refine (CD.out _ he).mono ?_
 rintro e w3 ⟨v, rfl, ho, h1⟩
 have hs2 := he.size
 have h4l := B1.lt
 replace B1 := B1.ext h1; replace he := he.next h1
 rcases ho.2 with ⟨_, h0⟩ | ⟨q', c', cur, rfl, hq', hh, hnc, hm, hsz, htk⟩
 · exact absurd h0 (by decide)
 have KQ : Blk w3 q' 9 cur := hh
 have htk : cur.toList.take 3 = l.flatMap sone := htk
 clear h1 CD r0 f0 B0 ho hh hnc hm hsz
 have hx := Ext.new (Below.refl w3.heap.size w3) (.cells #[.slice (some ⟨q', 0, none⟩) 3 c'] 40)
 have K6 := Blk.new w3 40 #[.slice (some ⟨q', 0, none⟩) 3 c']
 have hql := KQ.lt
 replace B1 := B1.ext hx; replace he := he.next hx; replace KQ := KQ.ext hx
 clear hx
 go_upto_region 4 with fail
 obtain ⟨g6, hg6⟩ : ∃ g6, g6 = w3.heap.size := ⟨_, rfl⟩
 rw [← hg6] at K6 hql
 rw [← hg6]
 clear hg6
 generalize w3.alloc (.cells #[.slice (some ⟨q', 0, none⟩) 3 c'] 40) = w4 at *
 have hqw : w.heap.size ≤ q' := by omega
 have h4q : g4 < q' := by omega
 have G1 := hU B1; have G6 := hU K6; have GQ := hU (show ∃ cur, Blk w4 q' 9 cur ∧ cur.toList.take 3 = (if (0 : Nat) = 0 then l else l.set k (s.extract 0 p ++ t)).flatMap sone from ⟨cur, KQ, by rw [if_pos rfl]; exact htk⟩); have GE := hU he
 clear B1 K6 KQ htk he hs2 h4l hq'
 go_upto_region 5 with fail
 go_loopw [22] (fun i wr => ∃ j : Nat, j ≤ 1 ∧ i = .int .i64 j ∧ Blk wr g6 40 #[.slice (some ⟨q', 0, none⟩) 3 c'] ∧ Blk wr g4 40 #[.slice none 0 0] ∧ (∃ cur, Blk wr q' 9 cur ∧ cur.toList.take 3 = (if j = 0 then l else l.set k (s.extract 0 p ++ t)).flatMap sone) ∧ Ext w wr) (fun i _ => 1 - (intOf i).toNat)
 case atStart => exact ⟨0, Nat.zero_le _, rfl, G6.out, G1.out, GQ.out, GE.out⟩
 case round =>
  clear G1 G6 GQ GE
  obtain ⟨j, hj, rfl, k6, k4, ⟨cu, kq, hcu⟩, he⟩ := hrel
  by_cases hlt : j < 1
  case neg =>
   obtain rfl : j = 1 := by omega
   rw [if_neg (by decide)] at hcu
   have Z1 := hU (k4.put 0 [.slice (some ⟨q', 0, none⟩) 3 c'] #[.slice (some ⟨q', 0, none⟩) 3 c'] (by simp) rfl)
   have Z2 := hU (kq.farCells (g' := g4) (by omega) [.slice (some ⟨q', 0, none⟩) 3 c'] 0)
   have Z3 := hU (ext_setCells (W := w) (g := g4) hw4 [.slice (some ⟨q', 0, none⟩) 3 c'] 0 _ he)
   have HCU := hU hcu
   obtain ⟨r1, f1⟩ := k6.rules
   obtain ⟨r2, f2⟩ := k4.rules
   clear k6 k4 kq hcu he
   go_wp2_with fail
   exact ret_row_tmp rfl rfl Z1.out Tryz.underlying40 rfl (by kernel_rfl) rfl ⟨q', c', cu, rfl, Z2.out, HCU.out, hqw, Z3.out⟩
  obtain rfl : j = 0 := by omega
  rw [if_pos rfl] at hcu
  obtain ⟨y0, y1, y2⟩ := Y.out _ he
  have KA := Blk.new wr 63 #[.int .i64 (k : Int), .int .i64 (p : Int), .string t]
  have hx := Ext.new (Below.refl wr.heap.size wr) (.cells #[.int .i64 (k : Int), .int .i64 (p : Int), .string t] 63)
  have K6 := hU (k6.ext hx); have K4 := hU (k4.ext hx); have KQ := hU (kq.ext hx); have HE := hU (he.next hx); have HCU := hU hcu; have KW := hU KA
  clear k6 k4 kq hcu he hx KA
  go_upto_region 7 with fail
  obtain ⟨g8, hg8⟩ : ∃ g8, g8 = wr.heap.size := ⟨_, rfl⟩
  rw [← hg8] at KW
  rw [← hg8]
  clear hg8 y0 y1 y2
  generalize wr.alloc (.cells #[.int .i64 (k : Int), .int .i64 (p : Int), .string t] 63) = w5 at *
  have CU := hU (cur_at HCU.out hk HS.out)
  have FT := hU (fits_good q' c' k p s t w5 ((KQ.out.cell k).trans CU.out) KQ.out.lt hk ha h3 ht)
  obtain ⟨r1, f1⟩ := K6.out.rules
  obtain ⟨r2, f2⟩ := KW.out.rules
  go_wp2_with fail
  refine FT.out.mono ?_
  rintro e w6 ⟨rfl, h1⟩
  replace K6 := hU (K6.out.ext h1); replace K4 := hU (K4.out.ext h1); replace KQ := hU (KQ.out.ext h1); replace KW := hU (KW.out.ext h1); replace HE := hU (HE.out.next h1)
  clear h1 r1 f1 r2 f2 FT
  have hne : g6 ≠ q' := by omega
  have PT := hU (put_good g6 q' c' k p s t cu w6 K6.out KQ.out hne CU.out hk ha h3 ht)
  obtain ⟨r2, f2⟩ := KW.out.rules
  go_wp2_with fail
  refine PT.out.mono ?_
  rintro e w7 ⟨v, rfl, kq2, kk⟩
  have E7 := hU (HE.out.nextBut hqw kk)
  have K67 := hU (K6.out.extBut kk hne)
  have K47 := hU (K4.out.extBut kk (by omega))
  have KQ7 := hU kq2
  have HC7 := hU (take_set3 (u := s.extract 0 p ++ t) HCU.out hk)
  clear kq2 kk r2 f2 PT
  go_wp2_with fail
  go_roundw
  case rel => exact ⟨1, by omega, by go_num, K67.out, K47.out, ⟨_, KQ7.out, by rw [if_neg (by decide)]; exact HC7.out⟩, E7.out⟩
  case measure => simp [intOf]
end Go.Proofs.YtgeengkdgdjcjaaGreat

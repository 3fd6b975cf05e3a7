/-
  HashImpl: No condition.
-/
import Derived.Test.YtgeengkdgdjcjaaMixed
namespace Go.Proofs.Ytgeengkdgdjcjaa
set_option maxHeartbeats 4000000
set_option maxRecDepth 100000
set_option linter.unusedSimpArgs false
open Go.RowKit
set_option linter.unusedVariables false
theorem two_blks (w : World) (x2 x3 : Array Value) (t2 t3 : TypeId) :
 Blk ((w.alloc (.cells x2 t2)).alloc (.cells x3 t3)) w.heap.size t2 x2 ∧ Blk ((w.alloc (.cells x2 t2)).alloc (.cells x3 t3)) (w.heap.size + 1) t3 x3 ∧ Ext w ((w.alloc (.cells x2 t2)).alloc (.cells x3 t3)) := by
 have h3 : (w.alloc (.cells x2 t2)).heap.size = w.heap.size + 1 := by simp
 refine ⟨(Blk.new w t2 x2).alloc _, ?_, Ext.new (Ext.new (Below.refl w.heap.size w) _) _⟩
 have := Blk.new (w.alloc (.cells x2 t2)) t3 x3; rwa [h3] at this
def startTo (tag : Int) : Nat → List Int
 | 0 => [0, 0, 0, 0, 0, 0, 0, 0]
 | k + 1 => (startTo tag k).set k (startAt tag k)
theorem startTo_len (tag : Int) : ∀ k, (startTo tag k).length = 8
 | 0 => rfl
 | k + 1 => by rw [startTo, List.length_set, startTo_len tag k]
theorem startTo_all (tag : Int) : startTo tag 8 = startW tag := rfl
theorem firstState_any (tag : Int) (w : World) (h0 : 0 ≤ tag) (h1 : tag ≤ 255) :
 Calls Try.prog 52 #[.int .i64 tag] w fun e w' => e = .returned (.agg (wrow (startW tag))) ∧ Ext w w' := by
 obtain ⟨B2, B3, he⟩ := two_blks w #[.int .u32 0, .int .u32 0, .int .u32 0, .int .u32 0, .int .u32 0, .int .u32 0, .int .u32 0, .int .u32 0] #[.int .u32 0, .int .u32 0, .int .u32 0, .int .u32 0, .int .u32 0, .int .u32 0, .int .u32 0, .int .u32 0] 83 83
 have K2 := hU B2; have He := hU he
 have K3 := hU (show Blk _ _ 83 (wrow (startTo tag 0)) from B3)
 clear B2 B3 he
 obtain ⟨fin, hfin⟩ : ∃ fin, fin = wrow (startW tag) := ⟨_, rfl⟩
 rw [← hfin]
 have Hfin := hU hfin
 clear hfin
 go_enter Try.func52, Try.ntmps52
 go_wp2_with fail
 obtain ⟨g, hg⟩ : ∃ g, g = w.heap.size := ⟨_, rfl⟩
 rw [← hg] at K2 K3
 rw [← hg]
 have Hg : w.heap.size ≤ g := by omega
 clear hg
 go_loopw [5] (fun x wr => ∃ i : Nat, i ≤ 8 ∧ x = .int .i64 i ∧ Blk wr g 83 #[.int .u32 0, .int .u32 0, .int .u32 0, .int .u32 0, .int .u32 0, .int .u32 0, .int .u32 0, .int .u32 0] ∧ Blk wr (g + 1) 83 (wrow (startTo tag i)) ∧ Ext w wr) (fun x _ => 8 - (intOf x).toNat)
 case atStart => exact ⟨0, by omega, rfl, K2.out, K3.out, He.out⟩
 case round =>
  clear K2 K3 He
  obtain ⟨i, hi, rfl, B2, B3, he⟩ := hrel
  by_cases hlt : i < 8
  · have hl := startTo_len tag i
    have q3 : wr.cell? ⟨g + 1, i, none⟩ = some (.int .u32 (gw (startTo tag i) i)) := by rw [B3.cell, wrow_get (by omega)]
    have m3 := B3.frozen i
    go_wp2_with fail
    go_roundw
    case rel =>
     have C2 := B2.far (p := ⟨g + 1, i, none⟩) (by show g ≠ g + 1; omega) (.int .u32 (startAt tag i))
     have C3 := B3.set_ i (.int .u32 (startAt tag i))
     have ce : Ext w (wr.setCell ⟨g + 1, i, none⟩ (.int .u32 (startAt tag i))) := Below.setCell he (p := ⟨g + 1, i, none⟩) (by show w.heap.size ≤ g + 1; omega) _
     rw [wrow_set] at C3
     exact ⟨i + 1, by omega, by go_num, C2, C3, ce⟩
    case measure => simp [intOf]; omega
  · have hi8 : i = 8 := by omega
    rw [hi8, startTo_all] at B3
    have hd8 : decide ((i : Int) < 8) = false := by rw [decide_eq_false_iff_not]; omega
    clear hi8
    have hwl := startW_len tag
    obtain ⟨f0, f1, f2, f3, f4, f5, f6, f7, hf⟩ := list8 hwl
    have Hf := hU hf
    rw [hf] at B3
    clear hf hwl
    have B3' : Blk wr (g + 1) 83 #[.int .u32 f0, .int .u32 f1, .int .u32 f2, .int .u32 f3, .int .u32 f4, .int .u32 f5, .int .u32 f6, .int .u32 f7] := B3
    obtain ⟨hc, hm⟩ := B3'.rules
    obtain ⟨hc4, hm4⟩ := B2.rules
    go_wp2_with fail
    have P : Blk (wr.setCells g 0 [.int .u32 f0, .int .u32 f1, .int .u32 f2, .int .u32 f3, .int .u32 f4, .int .u32 f5, .int .u32 f6, .int .u32 f7]) g 83 #[.int .u32 f0, .int .u32 f1, .int .u32 f2, .int .u32 f3, .int .u32 f4, .int .u32 f5, .int .u32 f6, .int .u32 f7] := Blk.put B2 0 _ _ (by simp) rfl
    have R2 : Ext w (wr.setCells g 0 [.int .u32 f0, .int .u32 f1, .int .u32 f2, .int .u32 f3, .int .u32 f4, .int .u32 f5, .int .u32 f6, .int .u32 f7]) := ext_setCells (by omega) _ _ _ he
    have R1 : fin = #[.int .u32 f0, .int .u32 f1, .int .u32 f2, .int .u32 f3, .int .u32 f4, .int .u32 f5, .int .u32 f6, .int .u32 f7] := by rw [Hfin.out, Hf.out]; rfl
    clear hc hm hc4 hm4 B2 B3 B3' he
    rw [R1]
    refine ret_row rfl rfl P Try.underlying83 rfl (by kernel_rfl) rfl ?_
    exact ⟨rfl, R2⟩
theorem byt_cut (T : ByteArray) (a j : Nat) : byt (T.extract a T.size) j = byt T (a + j) := by
 unfold byt
 by_cases h : a + j < T.size
 · have h1 : j < (T.extract a T.size).size := by rw [ByteArray.size_extract]; omega
   rw [dif_pos h, dif_pos h1, ByteArray.getElem_extract]
 · have h1 : ¬ j < (T.extract a T.size).size := by rw [ByteArray.size_extract]; omega
   rw [dif_neg h, dif_neg h1]
theorem wordI_cut (T : ByteArray) (a j : Nat) : wordI (T.extract a T.size) j = wordI T (a + j) := by
 simp only [wordI, byt_cut, Nat.add_assoc]
theorem blockW_cut (T : ByteArray) (a : Nat) : blockW (T.extract a T.size) 0 = blockW T a := by
 unfold blockW
 apply List.map_congr_left
 intro i _
 rw [wordI_cut, Nat.zero_add]
def blkTo (T : ByteArray) : Nat → List Int
 | 0 => [0, 0, 0, 0, 0, 0, 0, 0, 0, 0, 0, 0, 0, 0, 0, 0]
 | k + 1 => (blkTo T k).set k (wordI T (4 * k))
theorem blkTo_len (T : ByteArray) : ∀ k, (blkTo T k).length = 16
 | 0 => rfl
 | k + 1 => by rw [blkTo, List.length_set, blkTo_len T k]
theorem blkTo_all (T : ByteArray) : blkTo T 16 = blockW T 0 := by
 have : blockW T 0 = (List.range 16).map fun i => wordI T (4 * i) := by
  unfold blockW
  apply List.map_congr_left
  intro i _
  rw [Nat.zero_add]
 rw [this]
 rfl
theorem cut_cut (T : ByteArray) (a b : Nat) (h : a ≤ T.size) : (T.extract a T.size).extract b (T.extract a T.size).size = T.extract (a + b) T.size := by
 rw [ByteArray.extract_extract, ByteArray.size_extract]
 congr 1
 omega
theorem mixAll_any (s : List Int) (T : ByteArray) (w : World) (hs : s.length = 8) (ws : W32 s) (hT : T.size ≤ 1048576) :
 Calls Try.prog 51 #[.agg (wrow s), .string T] w fun e w' => e = .returned (.agg (wrow (mixT T s (T.size / 64)))) ∧ Ext w w' := by
 obtain ⟨a0, a1, a2, a3, a4, a5, a6, a7, rfl⟩ := list8 hs
 obtain ⟨s, hsd⟩ : ∃ s, s = [a0, a1, a2, a3, a4, a5, a6, a7] := ⟨_, rfl⟩
 have es : wrow [a0, a1, a2, a3, a4, a5, a6, a7] = #[.int .u32 a0, .int .u32 a1, .int .u32 a2, .int .u32 a3, .int .u32 a4, .int .u32 a5, .int .u32 a6, .int .u32 a7] := rfl
 obtain ⟨fin, hfin⟩ : ∃ fin, fin = wrow (mixT T s (T.size / 64)) := ⟨_, rfl⟩
 rw [es, ← hsd, ← hfin]
 rw [← hsd] at hs ws es
 obtain ⟨B2, B3, he⟩ := two_blks w #[.int .u32 a0, .int .u32 a1, .int .u32 a2, .int .u32 a3, .int .u32 a4, .int .u32 a5, .int .u32 a6, .int .u32 a7] #[.int .u32 0, .int .u32 0, .int .u32 0, .int .u32 0, .int .u32 0, .int .u32 0, .int .u32 0, .int .u32 0] 83 83
 have K2 := hU B2; have K3 := hU B3; have He := hU he
 have Hfin := hU hfin
 have Es := hU es
 clear hsd hfin es B2 B3 he
 have HT : Hid (T = T.extract (64 * 0) T.size) := hU (by simp)
 go_enter Try.func51, Try.ntmps51
 go_wp2_with fail
 obtain ⟨g, hg⟩ : ∃ g, g = w.heap.size := ⟨_, rfl⟩
 rw [← hg] at K2 K3
 rw [← hg]
 have Hg : w.heap.size ≤ g := by omega
 rw [← Es.out] at K2 K3 He
 rw [← Es.out]
 clear hg
 go_loopw [1] (fun x wr => ∃ (k : Nat) (R : ByteArray), x = .string R ∧ 64 * k + R.size = T.size ∧ Hid (R = T.extract (64 * k) T.size) ∧ Blk wr g 83 (wrow (mixT T s k)) ∧ Blk wr (g + 1) 83 #[.int .u32 0, .int .u32 0, .int .u32 0, .int .u32 0, .int .u32 0, .int .u32 0, .int .u32 0, .int .u32 0] ∧ Ext w wr) (fun x _ => match x with | .string r => r.size | _ => 0)
 case atStart => exact ⟨0, T, rfl, by omega, HT, K2.out, K3.out, He.out⟩
 case round =>
  clear K2 K3 He HT
  obtain ⟨k, R, rfl, hk, hR, B2, B3, he⟩ := hrel
  have K2 := hU B2; have K3 := hU B3
  clear B2 B3
  by_cases hlt : 64 ≤ R.size
  · have hd64 : decide ((64 : Int) ≤ (R.size : Int)) = true := by rw [decide_eq_true_eq]; omega
    obtain ⟨wo, rfl⟩ : ∃ wo : World, wo = wr := ⟨_, rfl⟩
    have hl64 : (64 : Int) ≤ (R.size : Int) := by omega
    have B5 := Blk.new wo 92 #[.int .u32 0, .int .u32 0, .int .u32 0, .int .u32 0, .int .u32 0, .int .u32 0, .int .u32 0, .int .u32 0, .int .u32 0, .int .u32 0, .int .u32 0, .int .u32 0, .int .u32 0, .int .u32 0, .int .u32 0, .int .u32 0]
    have he5 := Ext.new he (.cells #[.int .u32 0, .int .u32 0, .int .u32 0, .int .u32 0, .int .u32 0, .int .u32 0, .int .u32 0, .int .u32 0, .int .u32 0, .int .u32 0, .int .u32 0, .int .u32 0, .int .u32 0, .int .u32 0, .int .u32 0, .int .u32 0] 92)
    have L5 := hU (show Blk _ _ 92 (wrow (blkTo R 0)) from B5)
    have L2 := hU (K2.out.alloc (.cells #[.int .u32 0, .int .u32 0, .int .u32 0, .int .u32 0, .int .u32 0, .int .u32 0, .int .u32 0, .int .u32 0, .int .u32 0, .int .u32 0, .int .u32 0, .int .u32 0, .int .u32 0, .int .u32 0, .int .u32 0, .int .u32 0] 92))
    have L3 := hU (K3.out.alloc (.cells #[.int .u32 0, .int .u32 0, .int .u32 0, .int .u32 0, .int .u32 0, .int .u32 0, .int .u32 0, .int .u32 0, .int .u32 0, .int .u32 0, .int .u32 0, .int .u32 0, .int .u32 0, .int .u32 0, .int .u32 0, .int .u32 0] 92))
    have hgo : g + 1 < wo.heap.size := K3.out.lt
    clear B5 K2 K3
    go_wp2_with fail
    obtain ⟨h, hh⟩ : ∃ h, h = wo.heap.size := ⟨_, rfl⟩
    rw [← hh] at L5 hgo
    rw [← hh]
    clear hh
    go_loopw [12] (fun x wr => ∃ i : Nat, i ≤ 16 ∧ x = .int .i64 i ∧ Blk wr g 83 (wrow (mixT T s k)) ∧ Blk wr (g + 1) 83 #[.int .u32 0, .int .u32 0, .int .u32 0, .int .u32 0, .int .u32 0, .int .u32 0, .int .u32 0, .int .u32 0] ∧ Blk wr h 92 (wrow (blkTo R i)) ∧ Ext w wr) (fun x _ => 16 - (intOf x).toNat)
    case atStart => exact ⟨0, by omega, rfl, L2.out, L3.out, L5.out, he5⟩
    case round =>
     clear L2 L3 L5 he he5
     obtain ⟨i, hi, rfl, B2, B3, B5, he⟩ := hrel
     by_cases hlt2 : i < 16
     · have hl := blkTo_len R i
       have hl5 : (blkTo R i).length = 16 := hl
       obtain ⟨y, hy⟩ : ∃ y, y = wordI R (4 * i) := ⟨_, rfl⟩
       have Hn : Hid ((blkTo R i).set i y = blkTo R (i + 1)) := hU (by rw [hy]; rfl)
       have Hy := hU hy
       clear hl hy
       go_wp2_with fail
       refine (WordAtI_any R (4 * (i : Int)) _ (by omega) (by omega) (by omega)).mono ?_
       rintro e w1 ⟨rfl, m, rfl⟩
       rw [show (4 * (i : Int)).toNat = 4 * i by omega, ← Hy.out]
       have C2 := B2.drewN m; have C3 := B3.drewN m; have C5 := B5.drewN m; have ce := he.drewN m
       clear B2 B3 B5 he
       have hne1 : g ≠ h := by omega
       have hne2 : g + 1 ≠ h := by omega
       generalize wr.drewN m = w2 at *
       have q5 : w2.cell? ⟨h, i, none⟩ = some (.int .u32 (gw (blkTo R i) i)) := by rw [C5.cell, wrow_get (by omega)]
       have m5 := C5.frozen i
       have D2 := C2.far (p := ⟨h, i, none⟩) hne1 (.int .u32 y)
       have D3 := C3.far (p := ⟨h, i, none⟩) hne2 (.int .u32 y)
       have D5 := C5.set_ i (.int .u32 y)
       have de : Ext w (w2.setCell ⟨h, i, none⟩ (.int .u32 y)) := Below.setCell ce (p := ⟨h, i, none⟩) (by show w.heap.size ≤ h; omega) _
       rw [wrow_set, Hn.out] at D5
       have M2 := hU D2; have M3 := hU D3; have M5 := hU D5; have Me := hU de
       clear D2 D3 D5 de C2 C3 C5 ce
       go_wp2_with fail
       go_roundw
       case rel => exact ⟨i + 1, by omega, by go_num, M2.out, M3.out, M5.out, Me.out⟩
       case measure => simp [intOf]; omega
     · have hi16 : i = 16 := by omega
       rw [hi16] at B5
       have hd16 : decide ((i : Int) < 16) = false := by rw [decide_eq_false_iff_not]; omega
       clear hi16
       have hbl : (blkTo R 16).length = 16 := blkTo_len R 16
       have hb32 : W32 (blkTo R 16) := by rw [blkTo_all]; exact blockW_32 R 0
       have hbe : blkTo R 16 = blockW T (64 * k) := by rw [blkTo_all, hR.out, blockW_cut]
       obtain ⟨b, hbd⟩ : ∃ b, b = blkTo R 16 := ⟨_, rfl⟩
       rw [← hbd] at B5 hbl hb32 hbe
       have Hbe := hU hbe
       clear hbd hbe
       have hvl : (mixT T s k).length = 8 := by rw [mixT_len, hs]
       have hv32 : W32 (mixT T s k) := mixT_32 T ws k
       have Hnext : Hid (mixW (mixT T s k) b = mixT T s (k + 1)) := hU (by rw [Hbe.out]; rfl)
       obtain ⟨v, hv⟩ : ∃ v, v = mixT T s k := ⟨_, rfl⟩
       rw [← hv] at B2 hvl hv32 Hnext
       clear hv
       have E2 := hU B2; have E5 := hU B5
       obtain ⟨v0, v1, v2, v3, v4, v5, v6, v7, hve⟩ := list8 hvl
       obtain ⟨c0, c1, c2, c3, c4, c5, c6, c7, c8, c9, d0, d1, d2, d3, d4, d5, hbe2⟩ := list16 hbl
       have F2 : Blk wr g 83 #[.int .u32 v0, .int .u32 v1, .int .u32 v2, .int .u32 v3, .int .u32 v4, .int .u32 v5, .int .u32 v6, .int .u32 v7] := by rw [hve] at B2; exact B2
       have F5 : Blk wr h 92 #[.int .u32 c0, .int .u32 c1, .int .u32 c2, .int .u32 c3, .int .u32 c4, .int .u32 c5, .int .u32 c6, .int .u32 c7, .int .u32 c8, .int .u32 c9, .int .u32 d0, .int .u32 d1, .int .u32 d2, .int .u32 d3, .int .u32 d4, .int .u32 d5] := by rw [hbe2] at B5; exact B5
       have Hve := hU (show wrow v = #[.int .u32 v0, .int .u32 v1, .int .u32 v2, .int .u32 v3, .int .u32 v4, .int .u32 v5, .int .u32 v6, .int .u32 v7] by rw [hve]; rfl)
       have Hbe2 := hU (show wrow b = #[.int .u32 c0, .int .u32 c1, .int .u32 c2, .int .u32 c3, .int .u32 c4, .int .u32 c5, .int .u32 c6, .int .u32 c7, .int .u32 c8, .int .u32 c9, .int .u32 d0, .int .u32 d1, .int .u32 d2, .int .u32 d3, .int .u32 d4, .int .u32 d5] by rw [hbe2]; rfl)
       clear hve hbe2 B2 B5
       obtain ⟨r2, r3⟩ := F2.rules
       obtain ⟨r4, r5⟩ := F5.rules
       go_wp2_with fail
       rw [← Hve.out, ← Hbe2.out]
       refine (mixed_any v b wr hvl hbl hv32 hb32).mono ?_
       rintro e w1 ⟨rfl, h1⟩
       have G3 := hU (B3.ext h1); have ge := he.next h1
       have hml : (mixW v b).length = 8 := by rw [mixW_len, hvl]
       obtain ⟨m0, m1, m2, m3, m4, m5, m6, m7, hme⟩ := list8 hml
       have Hme := hU (show wrow (mixW v b) = #[.int .u32 m0, .int .u32 m1, .int .u32 m2, .int .u32 m3, .int .u32 m4, .int .u32 m5, .int .u32 m6, .int .u32 m7] by rw [hme]; rfl)
       rw [Hme.out]
       have G2 := F2.ext h1
       clear hme hml r2 r3 r4 r5 F5 F2 h1 B3 he
       obtain ⟨r2, r3⟩ := G2.rules
       go_wp2_with fail
       have P : Blk (w1.setCells g 0 [.int .u32 m0, .int .u32 m1, .int .u32 m2, .int .u32 m3, .int .u32 m4, .int .u32 m5, .int .u32 m6, .int .u32 m7]) g 83 #[.int .u32 m0, .int .u32 m1, .int .u32 m2, .int .u32 m3, .int .u32 m4, .int .u32 m5, .int .u32 m6, .int .u32 m7] := Blk.put G2 0 _ _ (by simp) rfl
       have P3 := Blk.farCells (g := g + 1) (g' := g) (by omega) [.int .u32 m0, .int .u32 m1, .int .u32 m2, .int .u32 m3, .int .u32 m4, .int .u32 m5, .int .u32 m6, .int .u32 m7] 0 w1 G3.out
       have R2 : Ext w (w1.setCells g 0 [.int .u32 m0, .int .u32 m1, .int .u32 m2, .int .u32 m3, .int .u32 m4, .int .u32 m5, .int .u32 m6, .int .u32 m7]) := ext_setCells Hg _ _ _ ge
       have P2 : Blk (w1.setCells g 0 [.int .u32 m0, .int .u32 m1, .int .u32 m2, .int .u32 m3, .int .u32 m4, .int .u32 m5, .int .u32 m6, .int .u32 m7]) g 83 (wrow (mixT T s (k + 1))) := by rw [← Hnext.out, Hme.out]; exact P
       have hcs : (R.extract 64 R.size).size = R.size - 64 := by rw [ByteArray.size_extract]; omega
       clear r2 r3 G2 P ge
       go_roundw
       case rel => exact ⟨k + 1, _, rfl, by rw [hcs]; omega, hU (by rw [hR.out, cut_cut _ _ _ (by omega)]; rfl), P2, P3, R2⟩
       case measure => show (R.extract 64 R.size).size < R.size; rw [hcs]; omega
  · have hd64 : decide ((64 : Int) ≤ (R.size : Int)) = false := by rw [decide_eq_false_iff_not]; omega
    have hkk : k = T.size / 64 := by omega
    have B2 := K2.out
    rw [hkk] at B2
    have hwl : (mixT T s (T.size / 64)).length = 8 := by rw [mixT_len, hs]
    obtain ⟨f0, f1, f2, f3, f4, f5, f6, f7, hf⟩ := list8 hwl
    have Hf := hU hf
    rw [hf] at B2
    clear hf hwl hkk
    have B2' : Blk wr g 83 #[.int .u32 f0, .int .u32 f1, .int .u32 f2, .int .u32 f3, .int .u32 f4, .int .u32 f5, .int .u32 f6, .int .u32 f7] := B2
    obtain ⟨hc, hm⟩ := B2'.rules
    have B3 := K3.out
    obtain ⟨hc4, hm4⟩ := B3.rules
    go_wp2_with fail
    have P : Blk (wr.setCells (g + 1) 0 [.int .u32 f0, .int .u32 f1, .int .u32 f2, .int .u32 f3, .int .u32 f4, .int .u32 f5, .int .u32 f6, .int .u32 f7]) (g + 1) 83 #[.int .u32 f0, .int .u32 f1, .int .u32 f2, .int .u32 f3, .int .u32 f4, .int .u32 f5, .int .u32 f6, .int .u32 f7] := Blk.put B3 0 _ _ (by simp) rfl
    have R2 : Ext w (wr.setCells (g + 1) 0 [.int .u32 f0, .int .u32 f1, .int .u32 f2, .int .u32 f3, .int .u32 f4, .int .u32 f5, .int .u32 f6, .int .u32 f7]) := ext_setCells (by omega) _ _ _ he
    have R1 : fin = #[.int .u32 f0, .int .u32 f1, .int .u32 f2, .int .u32 f3, .int .u32 f4, .int .u32 f5, .int .u32 f6, .int .u32 f7] := by rw [Hfin.out, Hf.out]; rfl
    clear hc hm hc4 hm4 B2 B3 B2' he K2 K3
    rw [R1]
    refine ret_row rfl rfl P Try.underlying83 rfl (by kernel_rfl) rfl ?_
    exact ⟨rfl, R2⟩
end Go.Proofs.Ytgeengkdgdjcjaa

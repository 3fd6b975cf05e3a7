/-
  SameW; Reopen2: No condition.
-/
import Derived.Test.YtgeengkdgdjcjaaGreatRecs
import Derived.Test.YtgeengkdgdjcjaaGreatReopenP
import Derived.Test.YtgeengkdgdjcjaaGreatFrames
namespace Go.Proofs.YtgeengkdgdjcjaaGreat
set_option maxHeartbeats 8000000
set_option maxRecDepth 100000
set_option linter.unusedSimpArgs false
open Go.RowKit
set_option linter.unusedVariables false
theorem blk_w0 {w : World} {g t : Nat} {cs : Array Value} (h : Blk w g t cs) : ∃ w6, w6 = w := ⟨w, rfl⟩
theorem cells5 {l : List HeadD} {w : World} {b off : Nat} {k : Nat} {d : HeadD} (hc : ∀ j u, (l.flatMap HeadD.cells)[k * 5 + j]? = some u → w.cell? ⟨b, off + k * 5 + j, none⟩ = some u) (hd : l[k]? = some d) :
 w.cell? ⟨b, off + k * 5, none⟩ = some (.int .i64 d.number) ∧ w.cell? ⟨b, off + k * 5 + 1, none⟩ = some (.int .i64 d.size) ∧ w.cell? ⟨b, off + k * 5 + 2, none⟩ = some (.string d.root) ∧ w.cell? ⟨b, off + k * 5 + 3, none⟩ = some (.int .i64 d.taken) ∧ w.cell? ⟨b, off + k * 5 + 4, none⟩ = some (.string d.takenRoot) :=
 ⟨hc 0 _ (flat_at _ 5 HeadD.cells_length l k 0 d hd (by omega)), hc 1 _ (flat_at _ 5 HeadD.cells_length l k 1 d hd (by omega)), hc 2 _ (flat_at _ 5 HeadD.cells_length l k 2 d hd (by omega)), hc 3 _ (flat_at _ 5 HeadD.cells_length l k 3 d hd (by omega)), hc 4 _ (flat_at _ 5 HeadD.cells_length l k 4 d hd (by omega))⟩
theorem cells3 {l : List ReceiptD} {w : World} {b off : Nat} {k : Nat} {d : ReceiptD} (hc : ∀ j u, (l.flatMap ReceiptD.cells)[k * 3 + j]? = some u → w.cell? ⟨b, off + k * 3 + j, none⟩ = some u) (hd : l[k]? = some d) :
 w.cell? ⟨b, off + k * 3, none⟩ = some (.string d.reader) ∧ w.cell? ⟨b, off + k * 3 + 1, none⟩ = some (.string d.topic) ∧ w.cell? ⟨b, off + k * 3 + 2, none⟩ = some (.int .i64 d.index) :=
 ⟨hc 0 _ (flat_at _ 3 ReceiptD.cells_length l k 0 d hd (by omega)), hc 1 _ (flat_at _ 3 ReceiptD.cells_length l k 1 d hd (by omega)), hc 2 _ (flat_at _ 3 ReceiptD.cells_length l k 2 d hd (by omega))⟩
theorem sameTexts_same (A A' : Option Addr) (c c' : Nat) (l : List ByteArray) (w : World) (hr : SlF AnyB sone 1 w A l c) (hr' : SlF AnyB sone 1 w A' l c') (hl : l.length ≤ 1048576) :
 Calls Tryz.prog 73 #[.slice A l.length c, .slice A' l.length c'] w fun e w' => e = .returned (.bool true) ∧ Ext w w' := by
 have H1 := hU hr; have H2 := hU hr'
 clear hr hr'
 go_enter Tryz.func73, Tryz.ntmps73
 go_wp2_with fail
 go_loopw [5] (fun i wr => ∃ (k : Nat), k ≤ l.length ∧ i = .int .i64 k ∧ Ext w wr) (fun i _ => l.length - (intOf i).toNat)
 case atStart => exact ⟨0, Nat.zero_le _, rfl, Below.refl _ _⟩
 case round =>
  obtain ⟨k, hk, rfl, he⟩ := hrel
  by_cases hlt : k < l.length
  case neg =>
   go_wp2_with fail
   go_ret
   exact ⟨rfl, he⟩
  obtain ⟨b, off, rfl, hb, hc⟩ := Reads.at_ (H1.out.ext he).reads (k := k) hlt
  obtain ⟨b', off', rfl, hb', hc'⟩ := Reads.at_ (H2.out.ext he).reads (k := k) hlt
  obtain ⟨d, hd⟩ : ∃ d, d = l[k] := ⟨_, rfl⟩
  have hdl : l[k]? = some d := by rw [hd]; exact List.getElem?_eq_getElem hlt
  have c0 := hc 0 _ (flat_at _ 1 sone_length l k 0 d hdl (by omega))
  have b0 := hc' 0 _ (flat_at _ 1 sone_length l k 0 d hdl (by omega))
  rw [Nat.add_zero, Nat.mul_one] at c0 b0
  clear hc hc' hd hdl
  have ES : (d.toList == d.toList) = true := by simp
  have HE := hU he
  clear he
  go_wp2_with fail
  go_quiet (fail)
  go_wp2_with fail
  go_roundw
  case rel => exact ⟨k + 1, by omega, by go_num, ⟨HE.out.os, HE.out.tape, HE.out.output, HE.out.size, HE.out.block⟩⟩
  case measure => simp [intOf]; omega
theorem sameEntries_same (A A' : Option Addr) (c c' : Nat) (l : List EntryD) (w : World) (hr : SlF AnyB EntryD.cells 5 w A l c) (hr' : SlF AnyB EntryD.cells 5 w A' l c') (hl : l.length ≤ 1048576) :
 Calls Tryz.prog 62 #[.slice A l.length c, .slice A' l.length c'] w fun e w' => e = .returned (.bool true) ∧ Ext w w' := by
 have H1 := hU hr; have H2 := hU hr'
 clear hr hr'
 go_enter Tryz.func62, Tryz.ntmps62
 go_wp2_with fail
 go_loopw [5] (fun i wr => ∃ (k : Nat), k ≤ l.length ∧ i = .int .i64 k ∧ Ext w wr) (fun i _ => l.length - (intOf i).toNat)
 case atStart => exact ⟨0, Nat.zero_le _, rfl, Below.refl _ _⟩
 case round =>
  obtain ⟨k, hk, rfl, he⟩ := hrel
  by_cases hlt : k < l.length
  case neg =>
   go_wp2_with fail
   go_ret
   exact ⟨rfl, he⟩
  obtain ⟨b, off, rfl, hb, hc⟩ := Reads.at_ (H1.out.ext he).reads (k := k) hlt
  obtain ⟨b', off', rfl, hb', hc'⟩ := Reads.at_ (H2.out.ext he).reads (k := k) hlt
  obtain ⟨d, hd⟩ : ∃ d, d = l[k] := ⟨_, rfl⟩
  have hdl : l[k]? = some d := by rw [hd]; exact List.getElem?_eq_getElem hlt
  obtain ⟨c0, c1, c2, c3, c4⟩ := entry_at hc hdl
  obtain ⟨b0, b1, b2, b3, b4⟩ := entry_at hc' hdl
  clear hc hc' hd hdl
  have ES : d.eqb d = true := EntryD.eqb_self d
  have HE := hU he
  clear he
  go_wp2_with fail
  go_quiet (fail)
  go_wp2_with fail
  go_roundw
  case rel => exact ⟨k + 1, by omega, by go_num, ⟨HE.out.os, HE.out.tape, HE.out.output, HE.out.size, HE.out.block⟩⟩
  case measure => simp [intOf]; omega
theorem sameRange_same (n : Int) (A A' : Option Addr) (c c' : Nat) (l : List ByteArray) (w : World) (hr : SlF AnyB sone 1 w A l c) (hr' : SlF AnyB sone 1 w A' l c') (hl : l.length ≤ 1048576) :
 Calls Tryz.prog 63 #[.agg #[.int .i64 n, .slice A l.length c], .agg #[.int .i64 n, .slice A' l.length c']] w fun e w' => e = .returned (.bool true) ∧ Ext w w' := by
 obtain ⟨B0, B1, he⟩ := two_blks w #[.int .i64 n, .slice A l.length c] #[.int .i64 n, .slice A' l.length c'] 31 31
 have CL := hU (sameTexts_same A A' c c' l _ (hr.ext he) (hr'.ext he) hl)
 obtain ⟨r0, m0⟩ := B0.rules
 obtain ⟨r1, m1⟩ := B1.rules
 have HE := hU he
 have ES : (n == n) = true := by simp
 clear B0 B1 he hr hr'
 go_enter Tryz.func63, Tryz.ntmps63
 go_wp2_with fail
 refine CL.out.mono ?_
 rintro e w2 ⟨rfl, h1⟩
 go_wp2_with fail
 go_ret
 exact ⟨rfl, HE.out.next h1⟩
theorem sameBroker_same {p q : Nat → Prop} (b : BrokerD) (M N : List Value) (w : World) (hm : BRdL p b M w) (hn : BRdL q b N w) (hz : BSz b) :
 Calls Tryz.prog 15 #[.agg M.toArray, .agg N.toArray] w fun e w' => e = .returned (.bool true) ∧ Ext w w' := by
 obtain ⟨X0, x0, X1, x1, X2, x2, X3, x3, X4, x4, hM, sx⟩ := hm
 obtain ⟨Y0, y0, Y1, y1, Y2, y2, Y3, y3, Y4, y4, hN, sy⟩ := hn
 have SX := hU sx.any; have SY := hU sy.any; have HZ := hU hz
 obtain ⟨E0, hE0⟩ : ∃ L, L = b.log.entries := ⟨_, rfl⟩
 obtain ⟨R0, hR0⟩ : ∃ L, L = b.receipts := ⟨_, rfl⟩
 obtain ⟨H0, hH0⟩ : ∃ L, L = b.heads := ⟨_, rfl⟩
 obtain ⟨P0, hP0⟩ : ∃ L, L = b.sealed.leaves.peaks := ⟨_, rfl⟩
 obtain ⟨P1, hP1⟩ : ∃ L, L = b.sealed.taken.peaks := ⟨_, rfl⟩
 obtain ⟨d, hd⟩ : ∃ d, d = b.sealed.head := ⟨_, rfl⟩
 obtain ⟨s0, hs0⟩ : ∃ d, d = b.sealed.leaves.size := ⟨_, rfl⟩
 obtain ⟨s1, hs1⟩ : ∃ d, d = b.sealed.taken.size := ⟨_, rfl⟩
 obtain ⟨wd, hwd⟩ : ∃ d, d = b.width := ⟨_, rfl⟩
 have BM : ∀ (W : World) (g : Nat), Blk W g 37 M.toArray → W.cell? ⟨g, 0, none⟩ = some (.int .i64 wd) ∧ W.cell? ⟨g, 1, none⟩ = some (.slice X0 E0.length x0) ∧ W.cell? ⟨g, 2, none⟩ = some (.slice X1 R0.length x1) ∧ W.cell? ⟨g, 3, none⟩ = some (.slice X2 H0.length x2) ∧ W.cell? ⟨g, 4, none⟩ = some (.int .i64 s0) ∧ W.cell? ⟨g, 5, none⟩ = some (.slice X3 P0.length x3) ∧ W.cell? ⟨g, 6, none⟩ = some (.int .i64 s1) ∧ W.cell? ⟨g, 7, none⟩ = some (.slice X4 P1.length x4) ∧ W.cell? ⟨g, 8, none⟩ = some (.int .i64 d.number) ∧ W.cell? ⟨g, 9, none⟩ = some (.int .i64 d.size) ∧ W.cell? ⟨g, 10, none⟩ = some (.string d.root) ∧ W.cell? ⟨g, 11, none⟩ = some (.int .i64 d.taken) ∧ W.cell? ⟨g, 12, none⟩ = some (.string d.takenRoot) := fun W g h => by
  rw [hM] at h
  rw [hE0, hR0, hH0, hP0, hP1, hd, hs0, hs1, hwd]
  exact ⟨h.cell 0, h.cell 1, h.cell 2, h.cell 3, h.cell 4, h.cell 5, h.cell 6, h.cell 7, h.cell 8, h.cell 9, h.cell 10, h.cell 11, h.cell 12⟩
 have BN : ∀ (W : World) (g : Nat), Blk W g 37 N.toArray → W.cell? ⟨g, 0, none⟩ = some (.int .i64 wd) ∧ W.cell? ⟨g, 1, none⟩ = some (.slice Y0 E0.length y0) ∧ W.cell? ⟨g, 2, none⟩ = some (.slice Y1 R0.length y1) ∧ W.cell? ⟨g, 3, none⟩ = some (.slice Y2 H0.length y2) ∧ W.cell? ⟨g, 4, none⟩ = some (.int .i64 s0) ∧ W.cell? ⟨g, 5, none⟩ = some (.slice Y3 P0.length y3) ∧ W.cell? ⟨g, 6, none⟩ = some (.int .i64 s1) ∧ W.cell? ⟨g, 7, none⟩ = some (.slice Y4 P1.length y4) ∧ W.cell? ⟨g, 8, none⟩ = some (.int .i64 d.number) ∧ W.cell? ⟨g, 9, none⟩ = some (.int .i64 d.size) ∧ W.cell? ⟨g, 10, none⟩ = some (.string d.root) ∧ W.cell? ⟨g, 11, none⟩ = some (.int .i64 d.taken) ∧ W.cell? ⟨g, 12, none⟩ = some (.string d.takenRoot) := fun W g h => by
  rw [hN] at h
  rw [hE0, hR0, hH0, hP0, hP1, hd, hs0, hs1, hwd]
  exact ⟨h.cell 0, h.cell 1, h.cell 2, h.cell 3, h.cell 4, h.cell 5, h.cell 6, h.cell 7, h.cell 8, h.cell 9, h.cell 10, h.cell 11, h.cell 12⟩
 have BM := hU BM; have BN := hU BN
 have SE := hU (fun (W : World) (h : Ext w W) => sameEntries_same X0 Y0 x0 y0 b.log.entries W (SX.out.ext h).e (SY.out.ext h).e HZ.out.e)
 have SR0 := hU (fun (W : World) (h : Ext w W) => sameRange_same s0 X3 Y3 x3 y3 b.sealed.leaves.peaks W (SX.out.ext h).u (SY.out.ext h).u HZ.out.u)
 have SR1 := hU (fun (W : World) (h : Ext w W) => sameRange_same s1 X4 Y4 x4 y4 b.sealed.taken.peaks W (SX.out.ext h).v (SY.out.ext h).v HZ.out.v)
 have lr := HZ.out.r; have lh := HZ.out.h
 rw [← hR0] at lr
 rw [← hH0] at lh
 have XR := hU (show SlF AnyB ReceiptD.cells 3 w X1 R0 x1 by rw [hR0]; exact SX.out.r); have YR := hU (show SlF AnyB ReceiptD.cells 3 w Y1 R0 y1 by rw [hR0]; exact SY.out.r)
 have XH := hU (show SlF AnyB HeadD.cells 5 w X2 H0 x2 by rw [hH0]; exact SX.out.h); have YH := hU (show SlF AnyB HeadD.cells 5 w Y2 H0 y2 by rw [hH0]; exact SY.out.h)
 rw [← hE0] at SE
 rw [← hP0] at SR0
 rw [← hP1] at SR1
 clear hM hN sx sy hz hE0 hR0 hH0 hP0 hP1 hd hs0 hs1 hwd SX SY HZ
 obtain ⟨K1, K2, he⟩ := two_blks w M.toArray N.toArray 37 37
 obtain ⟨g1, hg1⟩ : ∃ g1, g1 = w.heap.size := ⟨_, rfl⟩
 obtain ⟨g2, hg2⟩ : ∃ g2, g2 = w.heap.size + 1 := ⟨_, rfl⟩
 go_enter Tryz.func15, Tryz.ntmps15
 go_upto_region 1 with fail
 obtain ⟨w3, hw3⟩ : ∃ w3, w3 = (w.alloc (.cells M.toArray 37)).alloc (.cells N.toArray 37) := ⟨_, rfl⟩
 rw [← hw3] at K1 K2 he
 rw [← hw3]
 rw [← hg2] at K2
 rw [← hg1] at K1
 rw [← hg2, ← hg1]
 clear hw3 hg1 hg2
 obtain ⟨m0, m1, m2, m3, m4, m5, m6, m7, m8, m9, m10, m11, m12⟩ := BM.out _ _ K1
 obtain ⟨n0, n1, n2, n3, n4, n5, n6, n7, n8, n9, n10, n11, n12⟩ := BN.out _ _ K2
 go_wp2_with fail
 refine (SE.out _ he).mono ?_
 rintro e w4 ⟨rfl, h1⟩
 have KM := hU (K1.ext h1); have KN := hU (K2.ext h1); have HE := hU (he.next h1)
 clear h1 K1 K2 he m0 m1 m2 m3 m4 m5 m6 m7 m8 m9 m10 m11 m12 n0 n1 n2 n3 n4 n5 n6 n7 n8 n9 n10 n11 n12 SE
 obtain ⟨m0, m1, m2, m3, m4, m5, m6, m7, m8, m9, m10, m11, m12⟩ := BM.out _ _ KM.out
 obtain ⟨n0, n1, n2, n3, n4, n5, n6, n7, n8, n9, n10, n11, n12⟩ := BN.out _ _ KN.out
 go_upto_region 4 with fail
 clear m0 m1 m2 m3 m4 m5 m6 m7 m8 m9 m10 m11 m12 n0 n1 n2 n3 n4 n5 n6 n7 n8 n9 n10 n11 n12
 have HE0 := hU HE.out
 go_loopw [5] (fun i wr => ∃ (k : Nat), k ≤ R0.length ∧ i = .int .i64 k ∧ Ext w4 wr) (fun i _ => R0.length - (intOf i).toNat)
 case atStart => exact ⟨0, Nat.zero_le _, rfl, Below.refl _ _⟩
 case round =>
  obtain ⟨k, hk, rfl, he⟩ := hrel
  obtain ⟨m0, m1, m2, m3, m4, m5, m6, m7, m8, m9, m10, m11, m12⟩ := BM.out _ _ (KM.out.ext he)
  obtain ⟨n0, n1, n2, n3, n4, n5, n6, n7, n8, n9, n10, n11, n12⟩ := BN.out _ _ (KN.out.ext he)
  by_cases hlt : k < R0.length
  case pos =>
   obtain ⟨b, off, rfl, hb, hc⟩ := Reads.at_ (XR.out.ext (HE.out.next he)).reads (k := k) hlt
   obtain ⟨b', off', rfl, hb', hc'⟩ := Reads.at_ (YR.out.ext (HE.out.next he)).reads (k := k) hlt
   obtain ⟨z, hz⟩ : ∃ z, z = R0[k] := ⟨_, rfl⟩
   have hzl : R0[k]? = some z := by rw [hz]; exact List.getElem?_eq_getElem hlt
   obtain ⟨a0, a1, a2⟩ := cells3 hc hzl
   obtain ⟨b0, b1, b2⟩ := cells3 hc' hzl
   have ES : z.eqb z = true := ReceiptD.eqb_self z
   have HEE := hU he
   clear hc hc' hz hzl he
   go_wp2_with fail
   go_quiet (fail)
   go_wp2_with fail
   go_roundw
   case rel => exact ⟨k + 1, by omega, by go_num, ⟨HEE.out.os, HEE.out.tape, HEE.out.output, HEE.out.size, HEE.out.block⟩⟩
   case measure => simp [intOf]; omega
  go_upto_region 9 with fail
  replace KM := hU (KM.out.ext he); replace KN := hU (KN.out.ext he); replace HE := hU (HE.out.next he)
  clear he hk hlt
  obtain ⟨wr0, hwr0⟩ := blk_w0 KM.out
  subst hwr0
  clear m0 m1 m2 m3 m4 m5 m6 m7 m8 m9 m10 m11 m12 n0 n1 n2 n3 n4 n5 n6 n7 n8 n9 n10 n11 n12
  have HE0 := hU HE.out
  go_loopw [6] (fun i wr => ∃ (k : Nat), k ≤ H0.length ∧ i = .int .i64 k ∧ Ext wr0 wr) (fun i _ => H0.length - (intOf i).toNat)
  case atStart => exact ⟨0, Nat.zero_le _, rfl, Below.refl _ _⟩
  case round =>
   obtain ⟨k, hk, rfl, he⟩ := hrel
   obtain ⟨m0, m1, m2, m3, m4, m5, m6, m7, m8, m9, m10, m11, m12⟩ := BM.out _ _ (KM.out.ext he)
   obtain ⟨n0, n1, n2, n3, n4, n5, n6, n7, n8, n9, n10, n11, n12⟩ := BN.out _ _ (KN.out.ext he)
   by_cases hlt : k < H0.length
   case pos =>
    obtain ⟨b, off, rfl, hb, hc⟩ := Reads.at_ (XH.out.ext (HE.out.next he)).reads (k := k) hlt
    obtain ⟨b', off', rfl, hb', hc'⟩ := Reads.at_ (YH.out.ext (HE.out.next he)).reads (k := k) hlt
    obtain ⟨z, hz⟩ : ∃ z, z = H0[k] := ⟨_, rfl⟩
    have hzl : H0[k]? = some z := by rw [hz]; exact List.getElem?_eq_getElem hlt
    obtain ⟨a0, a1, a2, a3, a4⟩ := cells5 hc hzl
    obtain ⟨b0, b1, b2, b3, b4⟩ := cells5 hc' hzl
    have ES : z.eqb z = true := HeadD.eqb_self z
    have HEE := hU he
    clear hc hc' hz hzl he
    go_wp2_with fail
    go_quiet (fail)
    go_wp2_with fail
    go_roundw
    case rel => exact ⟨k + 1, by omega, by go_num, ⟨HEE.out.os, HEE.out.tape, HEE.out.output, HEE.out.size, HEE.out.block⟩⟩
    case measure => simp [intOf]; omega
   have KE := hU (HE.out.next he)
   replace KM := hU (KM.out.ext he); replace KN := hU (KN.out.ext he)
   have ES : d.eqb d = true := HeadD.eqb_self d
   clear he
   go_wp2_with fail
   refine (SR0.out _ KE.out).mono ?_
   rintro e w6 ⟨rfl, h1⟩
   replace KM := hU (KM.out.ext h1); replace KN := hU (KN.out.ext h1); replace KE := hU (KE.out.next h1)
   clear h1 m0 m1 m2 m3 m4 m5 m6 m7 m8 m9 m10 m11 m12 n0 n1 n2 n3 n4 n5 n6 n7 n8 n9 n10 n11 n12
   obtain ⟨m0, m1, m2, m3, m4, m5, m6, m7, m8, m9, m10, m11, m12⟩ := BM.out _ _ KM.out
   obtain ⟨n0, n1, n2, n3, n4, n5, n6, n7, n8, n9, n10, n11, n12⟩ := BN.out _ _ KN.out
   go_wp2_with fail
   refine (SR1.out _ KE.out).mono ?_
   rintro e w7 ⟨rfl, h1⟩
   go_wp2_with fail
   go_ret
   exact ⟨rfl, KE.out.next h1⟩
set_option maxHeartbeats 4000000
theorem ret_row_two {P : Program} {fn : Func} {R : Ending → World → Prop} {a : Act} {w : World} {p u v : Tmp} {ty g t : Nat} {cs : Array Value} {d : TypeDesc} (h : fn.results = #[.cell p ty, .tmp u, .tmp v])
 (hp : a.tmps.getD p undef = .pointer (some ⟨g, 0, none⟩)) (hB : Blk w g t cs) (hu : P.underlying ty = some d) (hd : (match d with | .struct _ | .array _ _ => true | _ => false) = true) (hi : (P.info? ty).map (·.size) = some cs.size)
 (hdef : a.defers = []) (hR : R (.returned (.tuple #[.agg cs, a.tmps.getD u undef, a.tmps.getD v undef])) w) : bodyPost P fn R .ret a w := by
 refine bodyPost_ret (v := .tuple #[.agg cs, a.tmps.getD u undef, a.tmps.getD v undef]) ?_ hdef hR
 have hp' : a.tmps[p]?.getD undef = .pointer (some ⟨g, 0, none⟩) := by simpa using hp
 simp [results, h, hp', asAddr, Sem.run_bind, Result.andThen, run_loadVar_row w g t ty cs (0, 0) d hB hu hd hi]
theorem implReopen_no (n : Int) (A : Option Addr) (c : Nat) (l : List ByteArray) (w : World) (hr : ReadsL w w.heap.size sone 1 A l) (hl : l.length ≤ 1048576) (h1 : (inR n 1 32 && diskOk l) = false) :
 Calls Tryz.prog 14 #[.int .i64 n, .agg #[.slice A l.length c]] w fun e w' => e = .returned (.tuple #[.agg #[.int .i64 0, .slice none 0 0, .slice none 0 0, .slice none 0 0, .int .i64 0, .slice none 0 0, .int .i64 0, .slice none 0 0, .int .i64 0, .int .i64 0, .string ⟨#[]⟩, .int .i64 0, .string ⟨#[]⟩], .slice none 0 0, .int .i64 1]) ∧ Ext w w' := by
 have K0 := hU (Blk.new w 40 #[.slice A l.length c])
 have He0 := Ext.new (Below.refl w.heap.size w) (.cells #[.slice A l.length c] 40)
 have HR := hU hr
 clear hr
 obtain ⟨w0, hw0⟩ : ∃ w0, w0 = w.alloc (.cells #[.slice A l.length c] 40) := ⟨_, rfl⟩
 have hs0 : w0.heap.size = w.heap.size + 1 := by rw [hw0, World.size_alloc]
 rw [← hw0] at He0
 have K0' := K0.out
 rw [← hw0] at K0'
 have KA := (K0'.alloc (.cells #[.int .i64 0, .slice none 0 0, .slice none 0 0, .slice none 0 0, .int .i64 0, .slice none 0 0, .int .i64 0, .slice none 0 0, .int .i64 0, .int .i64 0, .string ⟨#[]⟩, .int .i64 0, .string ⟨#[]⟩] 37))
 have KB := (Blk.new w0 37 #[.int .i64 0, .slice none 0 0, .slice none 0 0, .slice none 0 0, .int .i64 0, .slice none 0 0, .int .i64 0, .slice none 0 0, .int .i64 0, .int .i64 0, .string ⟨#[]⟩, .int .i64 0, .string ⟨#[]⟩])
 have He := He0.new (.cells #[.int .i64 0, .slice none 0 0, .slice none 0 0, .slice none 0 0, .int .i64 0, .slice none 0 0, .int .i64 0, .slice none 0 0, .int .i64 0, .int .i64 0, .string ⟨#[]⟩, .int .i64 0, .string ⟨#[]⟩] 37)
 obtain ⟨w1, hw1⟩ : ∃ w1, w1 = w0.alloc (.cells #[.int .i64 0, .slice none 0 0, .slice none 0 0, .slice none 0 0, .int .i64 0, .slice none 0 0, .int .i64 0, .slice none 0 0, .int .i64 0, .int .i64 0, .string ⟨#[]⟩, .int .i64 0, .string ⟨#[]⟩] 37) := ⟨_, rfl⟩
 rw [← hw1] at KA KB He
 have W0 := hU hw0; have W1 := hU hw1
 rw [hs0] at KB
 obtain ⟨ac, af⟩ := KA.rules
 obtain ⟨bc, bf⟩ := KB.rules
 clear K0 K0' He0 hw0 hw1 hs0
 have T3 := hU (KB.there 0 13 (by simp))
 obtain ⟨w4, hw4, hz, hx⟩ : ∃ w4, w4 = w1.setCells (w.heap.size + 1) 0 [.int .i64 0, .slice none 0 0, .slice none 0 0, .slice none 0 0, .int .i64 0, .slice none 0 0, .int .i64 0, .slice none 0 0, .int .i64 0, .int .i64 0, .string ⟨#[]⟩, .int .i64 0, .string ⟨#[]⟩] ∧ Blk w4 (w.heap.size + 1) 37 #[.int .i64 0, .slice none 0 0, .slice none 0 0, .slice none 0 0, .int .i64 0, .slice none 0 0, .int .i64 0, .slice none 0 0, .int .i64 0, .int .i64 0, .string ⟨#[]⟩, .int .i64 0, .string ⟨#[]⟩] ∧ Ext w w4 := ⟨_, rfl, KB.put 0 [.int .i64 0, .slice none 0 0, .slice none 0 0, .slice none 0 0, .int .i64 0, .slice none 0 0, .int .i64 0, .slice none 0 0, .int .i64 0, .int .i64 0, .string ⟨#[]⟩, .int .i64 0, .string ⟨#[]⟩] #[.int .i64 0, .slice none 0 0, .slice none 0 0, .slice none 0 0, .int .i64 0, .slice none 0 0, .int .i64 0, .slice none 0 0, .int .i64 0, .int .i64 0, .string ⟨#[]⟩, .int .i64 0, .string ⟨#[]⟩] (by simp) rfl, ext_setCells (W := w) (g := w.heap.size + 1) (by omega) [.int .i64 0, .slice none 0 0, .slice none 0 0, .slice none 0 0, .int .i64 0, .slice none 0 0, .int .i64 0, .slice none 0 0, .int .i64 0, .int .i64 0, .string ⟨#[]⟩, .int .i64 0, .string ⟨#[]⟩] 0 _ He⟩
 have HW := hU hw4; have Z4 := hU hz; have X4 := hU hx
 clear hw4 hz hx
 cases b1 : inR n 1 32
 · go_enter Tryz.func14, Tryz.ntmps14
   go_upto_region 1 with fail
   rw [← W0.out]
   rw [← W1.out]
   go_wp2_with (first | (go_at_call 53; refine (isWidth_any _ _).mono ?_; rintro e w' ⟨rfl, rfl⟩; rw [b1]) | (refine wpList_store_list rfl 37 _ _ rfl rfl (w.heap.size + 1) 0 [.int .i64 0, .slice none 0 0, .slice none 0 0, .slice none 0 0, .int .i64 0, .slice none 0 0, .int .i64 0, .slice none 0 0, .int .i64 0, .int .i64 0, .string ⟨#[]⟩, .int .i64 0, .string ⟨#[]⟩] rfl rfl T3.out (by kernel_rfl) (by rfl) ?_; rw [← HW.out]))
   exact ret_row_two rfl rfl Z4.out Tryz.underlying37 rfl (by kernel_rfl) rfl ⟨rfl, X4.out⟩
 · have q1 : diskOk l = false := by rw [b1] at h1; simpa using h1
   clear HW Z4 X4 T3
   have KB := hU KB
   have he := He
   clear He
   go_enter Tryz.func14, Tryz.ntmps14
   go_upto_region 1 with fail
   rw [← W0.out]
   rw [← W1.out]
   go_wp2_with (go_at_call 53; refine (isWidth_any _ _).mono ?_; rintro e w' ⟨rfl, rfl⟩; rw [b1])
   refine (implDiskOk_any A c l _ (HR.out.ext he) hl).mono ?_
   rintro e w2 ⟨rfl, h2⟩
   rw [q1]
   have K2 := KB.out.ext h2
   have he2 := he.next h2
   have T4 := hU (K2.there 0 13 (by simp))
   obtain ⟨w5, hw5, hz, hx⟩ : ∃ w5, w5 = w2.setCells (w.heap.size + 1) 0 [.int .i64 0, .slice none 0 0, .slice none 0 0, .slice none 0 0, .int .i64 0, .slice none 0 0, .int .i64 0, .slice none 0 0, .int .i64 0, .int .i64 0, .string ⟨#[]⟩, .int .i64 0, .string ⟨#[]⟩] ∧ Blk w5 (w.heap.size + 1) 37 #[.int .i64 0, .slice none 0 0, .slice none 0 0, .slice none 0 0, .int .i64 0, .slice none 0 0, .int .i64 0, .slice none 0 0, .int .i64 0, .int .i64 0, .string ⟨#[]⟩, .int .i64 0, .string ⟨#[]⟩] ∧ Ext w w5 := ⟨_, rfl, K2.put 0 [.int .i64 0, .slice none 0 0, .slice none 0 0, .slice none 0 0, .int .i64 0, .slice none 0 0, .int .i64 0, .slice none 0 0, .int .i64 0, .int .i64 0, .string ⟨#[]⟩, .int .i64 0, .string ⟨#[]⟩] #[.int .i64 0, .slice none 0 0, .slice none 0 0, .slice none 0 0, .int .i64 0, .slice none 0 0, .int .i64 0, .slice none 0 0, .int .i64 0, .int .i64 0, .string ⟨#[]⟩, .int .i64 0, .string ⟨#[]⟩] (by simp) rfl, ext_setCells (W := w) (g := w.heap.size + 1) (by omega) [.int .i64 0, .slice none 0 0, .slice none 0 0, .slice none 0 0, .int .i64 0, .slice none 0 0, .int .i64 0, .slice none 0 0, .int .i64 0, .int .i64 0, .string ⟨#[]⟩, .int .i64 0, .string ⟨#[]⟩] 0 _ he2⟩
   have HW := hU hw5; have Z4 := hU hz; have X4 := hU hx
   clear hw5 hz hx
   go_wp2_with (refine wpList_store_list rfl 37 _ _ rfl rfl (w.heap.size + 1) 0 [.int .i64 0, .slice none 0 0, .slice none 0 0, .slice none 0 0, .int .i64 0, .slice none 0 0, .int .i64 0, .slice none 0 0, .int .i64 0, .int .i64 0, .string ⟨#[]⟩, .int .i64 0, .string ⟨#[]⟩] rfl rfl T4.out (by kernel_rfl) (by rfl) ?_; rw [← HW.out])
   exact ret_row_two rfl rfl Z4.out Tryz.underlying37 rfl (by kernel_rfl) rfl ⟨rfl, X4.out⟩
end Go.Proofs.YtgeengkdgdjcjaaGreat

/-
  SpecS; Recs2: No condition.
-/
import Derived.Test.YtlgdghpnfclgpaaGreatSpecG
import Derived.Test.YtlgdghpnfclgpaaGreatRoot6
import Derived.Test.YtlgdghpnfclgpaaGreatRecs
import Derived.Test.YtlgdghpnfclgpaaGreatRootI
import Derived.Test.YtlgdghpnfclgpaaGreatCopyC
namespace Go.Proofs.YtlgdghpnfclgpaaGreat
set_option maxHeartbeats 4000000
set_option maxRecDepth 100000
set_option linter.unusedSimpArgs false
open Go.RowKit
set_option linter.unusedVariables false
theorem range0_ok {wd : Int} (hwd : inR wd 1 32 = true) : rangeOkB wd ⟨0, []⟩ = true := by
 have := inR_true hwd
 simp [rangeOkB, inR, hashes, pc_zero]
 omega
theorem RangeOf_good (wd : Int) (hwd : inR wd 1 32 = true) (A' : Option Addr) (c' : Nat) (l : List ByteArray) (w : World) (hrl : ReadsL w w.heap.size sone 1 A' l) (hls : ∀ x ∈ l, WdT wd x) (hfit : l.length ≤ 512) :
 Calls Tryz.prog 71 #[.int .i64 wd, .slice A' l.length c'] w fun e w' => ∃ v, e = .returned (.tuple #[.agg #[.int .i64 (l.length : Int), v], .bool true]) ∧ RowT w.heap.size w' v (peaksOf (ndB wd) l).reverse ∧ Ext w w' := by
 have K0 := hU (Blk.new w 54 #[.int .i64 0, .slice none 0 0])
 have He := hU (Ext.new (Below.refl w.heap.size w) (.cells #[.int .i64 0, .slice none 0 0] 54))
 have C := hU (GrowAll_good wd hwd ⟨0, []⟩ none 0 A' c' l _ Reads.nil_ (hrl.ext He.out) (range0_ok hwd) hls (by show (l.length : Int) ≤ 512 - 0; omega))
 have hPK : growL (ndB wd) 0 [] l = peaksOf (ndB wd) l := rfl
 simp only [List.length_nil, List.reverse_nil, Int.toNat_zero, hPK] at C
 clear hPK
 go_enter Tryz.func71, Tryz.ntmps71
 go_wp2_with fail
 obtain ⟨g, hg⟩ : ∃ g, g = w.heap.size := ⟨_, rfl⟩
 have K0 := hU (show Blk _ g _ _ by rw [hg]; exact K0.out)
 rw [← hg]
 have Hg := hU hg
 clear hg
 refine C.out.mono ?_
 rintro e w1 ⟨m, v, rfl, hrow, h1⟩
 rw [Int.zero_add]
 have hE1 := He.out.next h1
 have k0 := K0.out.ext h1
 have R1 := hU (show RowT w.heap.size w1 v (peaksOf (ndB wd) l).reverse from ownsRow_base hrow (by simp))
 have HE := hU hE1; have KB := hU k0
 clear h1 k0 hE1 hrow K0 He C
 obtain ⟨Lp, hLp⟩ : ∃ Lp, Lp = (peaksOf (ndB wd) l).reverse := ⟨_, rfl⟩
 rw [← hLp] at R1
 obtain ⟨Av, cv, hv, _⟩ := ownsRow_form R1.out
 subst hv
 have HLp := hU hLp
 clear hLp
 have K2 := hU (KB.out.alloc (.cells #[.int .i64 (l.length : Int), .slice Av Lp.length cv] 54))
 have E2 := hU (HE.out.new (.cells #[.int .i64 (l.length : Int), .slice Av Lp.length cv] 54))
 have R2 := hU (R1.out.ext (Ext.new (Below.refl w1.heap.size w1) (.cells #[.int .i64 (l.length : Int), .slice Av Lp.length cv] 54)))
 have D2 := hU (Blk.new w1 54 #[.int .i64 (l.length : Int), .slice Av Lp.length cv])
 have hgl := KB.out.lt
 clear R1 HE KB
 go_upto_region 2 with fail
 obtain ⟨g2, hg2⟩ : ∃ g2, g2 = w1.heap.size := ⟨_, rfl⟩
 have D2 := hU (show Blk _ g2 _ _ by rw [hg2]; exact D2.out)
 rw [← hg2]
 clear hg2 hgl
 generalize w1.alloc (.cells #[.int .i64 (l.length : Int), .slice Av Lp.length cv] 54) = w2 at *
 obtain ⟨d0, df⟩ := D2.out.rules
 obtain ⟨k0, kf⟩ := K2.out.rules
 have KB := hU (K2.out.put 0 [.int .i64 (l.length : Int), .slice Av Lp.length cv] #[.int .i64 (l.length : Int), .slice Av Lp.length cv] (by simp) rfl)
 have hk5 : Frm (fun b => b = g) w2 (w2.setCells g 0 [.int .i64 (l.length : Int), .slice Av Lp.length cv]) := Frm.setCells (X := fun b => b = g) (Frm.refl _ w2) (g := g) (fun _ => rfl) _ _
 have RF : Hid (RowT w.heap.size (w2.setCells g 0 [.int .i64 (l.length : Int), .slice Av Lp.length cv]) (.slice Av Lp.length cv) (peaksOf (ndB wd) l).reverse) := hU (by rw [← HLp.out]; exact hk5.own R2.out (fun b hb => RowT.apart R2.out K2.out (by decide) b hb))
 have HX := hU (ext_setCells (W := w) (g := g) (by have := Hg.out; omega) [.int .i64 (l.length : Int), .slice Av Lp.length cv] 0 w2 E2.out)
 clear hk5 R2 E2 D2 K2
 go_wp2_with fail
 exact ret_row_tmp rfl rfl KB.out Tryz.underlying54 rfl (by kernel_rfl) rfl ⟨_, rfl, RF.out, HX.out⟩
theorem SealOk_any (wd : Int) (s : SealD) (A1 : Option Addr) (c1 : Nat) (A2 : Option Addr) (c2 : Nat) (w : World) (h1 : ReadsL w w.heap.size sone 1 A1 s.leaves.peaks) (h2 : ReadsL w w.heap.size sone 1 A2 s.taken.peaks) (l1 : s.leaves.peaks.length ≤ 1048576) (l2 : s.taken.peaks.length ≤ 1048576) :
 Calls Tryz.prog 102 #[.int .i64 wd, .agg (sealV s A1 c1 A2 c2).toArray] w fun e w' => e = .returned (.bool (sealOkB wd s)) ∧ Ext w w' := by
 have K0 := hU (Blk.new w 57 (sealV s A1 c1 A2 c2).toArray)
 have He := hU (Ext.new (Below.refl w.heap.size w) (.cells (sealV s A1 c1 A2 c2).toArray 57))
 have C1 := hU (fun (W : World) (hW : Ext w W) => RangeRoot_any wd s.leaves A1 c1 W (h1.ext hW) l1)
 have C2 := hU (fun (W : World) (hW : Ext w W) => RangeRoot_any wd s.taken A2 c2 W (h2.ext hW) l2)
 obtain ⟨fin, hfin⟩ : ∃ fin, fin = sealOkB wd s := ⟨_, rfl⟩
 rw [← hfin]
 have F := hU (show fin = (rangeOkB wd s.leaves && rangeOkB wd s.taken && headOk wd s.head && (s.head.size == s.leaves.size) && (s.head.root.toList == (rootR wd s.leaves).toList) && (s.head.taken == s.taken.size) && (s.head.takenRoot.toList == (rootR wd s.taken).toList)) from hfin)
 clear hfin h1 h2
 obtain ⟨z1, hz1⟩ : ∃ z1, z1 = rangeOkB wd s.leaves := ⟨_, rfl⟩
 obtain ⟨z2, hz2⟩ : ∃ z2, z2 = rangeOkB wd s.taken := ⟨_, rfl⟩
 obtain ⟨t1, ht1⟩ : ∃ t1, t1 = rootR wd s.leaves := ⟨_, rfl⟩
 obtain ⟨t2, ht2⟩ : ∃ t2, t2 = rootR wd s.taken := ⟨_, rfl⟩
 rw [← hz1, ← ht1] at C1 F
 rw [← hz2, ← ht2] at C2 F
 obtain ⟨x1, hx1⟩ : ∃ x1, x1 = (if z1 then t1 else ⟨#[]⟩) := ⟨_, rfl⟩
 obtain ⟨x2, hx2⟩ : ∃ x2, x2 = (if z2 then t2 else ⟨#[]⟩) := ⟨_, rfl⟩
 rw [← hx1] at C1
 rw [← hx2] at C2
 have X1 := hU hx1; have X2 := hU hx2
 clear hz1 hz2 ht1 ht2 hx1 hx2
 simp only [sealV] at K0 He ⊢
 obtain ⟨r0, m0⟩ := K0.out.rules
 go_enter Tryz.func102, Tryz.ntmps102
 go_wp2_with fail
 obtain ⟨g, hg⟩ : ∃ g, g = w.heap.size := ⟨_, rfl⟩
 rw [← hg] at K0
 rw [← hg]
 clear r0 m0 hg
 refine (C1.out _ He.out).mono ?_
 rintro e w1 ⟨m1, rfl, hx⟩
 have he := He.out.next hx
 have k0 := K0.out.ext hx
 clear hx K0 He
 obtain ⟨r0, m0⟩ := k0.rules
 go_wp2_with fail
 refine (C2.out _ he).mono ?_
 rintro e w2 ⟨m2, rfl, hx⟩
 replace he := he.next hx
 replace k0 := k0.ext hx
 clear hx r0 m0 C1 C2
 obtain ⟨r0, m0⟩ := k0.rules
 go_upto_region 3 with fail
 cases z1
 · have E := hU (show fin = false by rw [F.out]; rfl)
   go_wp2_with fail
   go_ret
   exact ⟨ret_bool E.out.symm, he⟩
 cases z2
 · have E := hU (show fin = false by rw [F.out]; simp)
   go_wp2_with fail
   go_ret
   exact ⟨ret_bool E.out.symm, he⟩
 have Y1 := hU (show x1 = t1 from X1.out); have Y2 := hU (show x2 = t2 from X2.out)
 rw [← Y1.out, ← Y2.out] at F
 clear X1 X2 Y1 Y2
 go_wp2_with fail
 refine (specHeadOk_any wd s.head _).mono ?_
 rintro e w3 ⟨rfl, hx⟩
 replace he := he.next hx
 replace k0 := k0.ext hx
 clear hx r0 m0
 obtain ⟨r0, m0⟩ := k0.rules
 obtain ⟨z3, hz3⟩ : ∃ z3, z3 = headOk wd s.head := ⟨_, rfl⟩
 rw [← hz3] at F
 rw [← hz3]
 clear hz3
 cases z3
 · have E := hU (show fin = false by rw [F.out]; simp)
   go_wp2_with fail
   go_ret
   exact ⟨ret_bool E.out.symm, he⟩
 by_cases p4 : s.head.size = s.leaves.size
 case neg =>
  have b4 : (s.head.size == s.leaves.size) = false := beq_false_of_ne p4
  have E := hU (show fin = false by rw [F.out, b4]; simp)
  go_wp2_with fail
  go_ret
  exact ⟨ret_bool E.out.symm, he⟩
 have b4 : (s.head.size == s.leaves.size) = true := beq_iff_eq.2 p4
 rw [b4] at F
 clear p4
 cases b5 : (s.head.root.toList == x1.toList)
 · have E := hU (show fin = false by rw [F.out, b5]; simp)
   go_wp2_with fail
   go_ret
   exact ⟨ret_bool E.out.symm, he⟩
 rw [b5] at F
 by_cases p6 : s.head.taken = s.taken.size
 case neg =>
  have b6 : (s.head.taken == s.taken.size) = false := beq_false_of_ne p6
  have E := hU (show fin = false by rw [F.out, b6]; simp)
  go_wp2_with fail
  go_ret
  exact ⟨ret_bool E.out.symm, he⟩
 have b6 : (s.head.taken == s.taken.size) = true := beq_iff_eq.2 p6
 rw [b6] at F
 clear p6
 have E := hU (show fin = (s.head.takenRoot.toList == x2.toList) by rw [F.out]; simp)
 go_wp2_with fail
 go_ret
 exact ⟨ret_bool E.out.symm, he⟩
set_option maxHeartbeats 2000000
theorem l12At_any (A : Option Addr) (c : Nat) (l : List ReceiptD) (r : ReceiptD) (w : World) (hr : ReadsL w w.heap.size ReceiptD.cells 3 A l) (hl : l.length ≤ 1048576) :
 Calls Tryz.prog 128 #[.slice A l.length c, .agg #[.string r.reader, .string r.topic, .int .i64 r.index]] w fun e w' => e = .returned (.int .i64 (idxB (fun x => x.eqb r) l)) ∧ Ext w w' := by
 have HR := hU hr
 have K0 := hU (Blk.new w 77 #[.string r.reader, .string r.topic, .int .i64 r.index])
 have He := hU (Ext.new (Below.refl w.heap.size w) (.cells #[.string r.reader, .string r.topic, .int .i64 r.index] 77))
 obtain ⟨fin, hfin⟩ : ∃ fin, fin = idxB (fun x : ReceiptD => x.eqb r) l := ⟨_, rfl⟩
 rw [← hfin]
 have F := hU hfin
 clear hfin hr
 go_enter Tryz.func128, Tryz.ntmps128
 go_wp2_with fail
 obtain ⟨g, hg⟩ : ∃ g, g = w.heap.size := ⟨_, rfl⟩
 rw [← hg] at K0
 rw [← hg]
 clear hg
 go_loopw [5] (fun i wr => ∃ k : Nat, k ≤ l.length ∧ i = .int .i64 k ∧ (∀ x ∈ l.take k, x.eqb r = false) ∧ Blk wr g 77 #[.string r.reader, .string r.topic, .int .i64 r.index] ∧ Ext w wr) (fun i _ => l.length - (intOf i).toNat)
 case atStart => exact ⟨0, Nat.zero_le _, rfl, by simp, K0.out, He.out⟩
 case round =>
  clear K0 He
  obtain ⟨k, hk, rfl, hi, k0, he⟩ := hrel
  have Hi := hU hi
  obtain ⟨r0, m0⟩ := k0.rules
  have K0 := hU k0
  clear hi k0
  by_cases hlt : k < l.length
  case neg =>
   have E := hU (show fin = -1 by rw [F.out]; exact idxB_none (by have := Hi.out; rwa [show k = l.length by omega, List.take_length] at this))
   go_wp2_with fail
   go_ret
   exact ⟨ret_int E.out.symm, he⟩
  obtain ⟨b, off, rfl, hb, hc⟩ := Reads.at_ (HR.out.ext he) (k := k) hlt
  obtain ⟨d, hd⟩ : ∃ d, d = l[k] := ⟨_, rfl⟩
  have hdl : l[k]? = some d := by rw [hd]; exact List.getElem?_eq_getElem hlt
  obtain ⟨c0, c1, c2⟩ := rec_at hc hdl
  have Hdl := hU hdl
  have HQ := ReceiptD.run_eql d r
  clear hc hd hdl
  cases p1 : d.eqb r
  · have E := hU (take_none (p := fun x : ReceiptD => x.eqb r) Hi.out Hdl.out p1)
    go_wp2_with fail
    go_quiet (fail)
    go_wp2_with fail
    go_roundw
    case rel => exact ⟨k + 1, by omega, by go_num, E.out, K0.out.drewN _, he.drewN _⟩
    case measure => simp [intOf]; omega
  · have E := hU (show fin = (k : Int) by rw [F.out]; exact idxB_at Hdl.out p1 Hi.out)
    go_wp2_with fail
    go_quiet (fail)
    go_wp2_with fail
    go_ret
    exact ⟨ret_int E.out.symm, he.drewN _⟩
theorem recAt_one {l : List ReceiptD} {k : Nat} {d : ReceiptD} (hd : l[k]? = some d) : recAt l k = (receiptOk d && (idxB (fun x => x.eqb d) l == (k : Int))) := by rw [recAt, hd]
theorem l12ReceiptsOk_any (A : Option Addr) (c : Nat) (l : List ReceiptD) (w : World) (hr : SlF AnyB ReceiptD.cells 3 w A l c) (hok : ∀ d ∈ l, d.Ok) :
 Calls Tryz.prog 68 #[.slice A l.length c] w fun e w' => e = .returned (.bool (recsOk l)) ∧ Ext w w' := by
 have HR := hU hr
 have Hok := hU hok
 have hlm := hr.len
 unfold maxLen at hlm
 obtain ⟨fin, hfin⟩ : ∃ fin, fin = recsOk l := ⟨_, rfl⟩
 rw [← hfin]
 by_cases h5 : l.length ≤ 512
 case neg =>
  have E := hU (show fin = false by rw [hfin, recsOk, decide_eq_false h5]; rfl)
  have h6 : (512 : Int) < (l.length : Int) := by omega
  clear hfin
  go_enter Tryz.func68, Tryz.ntmps68
  go_wp2_with fail
  go_ret
  exact ⟨ret_bool E.out.symm, Below.refl w.heap.size w⟩
 have F := hU (show fin = allTo (recAt l) l.length by rw [hfin, recsOk, decide_eq_true h5]; rfl)
 clear hfin hok hr
 go_enter Tryz.func68, Tryz.ntmps68
 go_wp2_with fail
 go_loopw [3] (fun i wr => ∃ k : Nat, k ≤ l.length ∧ i = .int .i64 k ∧ allTo (recAt l) k = true ∧ Ext w wr) (fun i _ => l.length - (intOf i).toNat)
 case atStart => exact ⟨0, Nat.zero_le _, rfl, rfl, Below.refl w.heap.size w⟩
 case round =>
  obtain ⟨k, hk, rfl, hi, he⟩ := hrel
  have Hi := hU hi
  clear hi
  by_cases hlt : k < l.length
  case neg =>
   have E := hU (show fin = true by rw [F.out, show l.length = k by omega]; exact Hi.out)
   go_wp2_with fail
   go_ret
   exact ⟨ret_bool E.out.symm, he⟩
  obtain ⟨b, off, rfl, hb, hc⟩ := Reads.at_ (HR.out.ext he).reads (k := k) hlt
  obtain ⟨d, hd⟩ : ∃ d, d = l[k] := ⟨_, rfl⟩
  have hdl : l[k]? = some d := by rw [hd]; exact List.getElem?_eq_getElem hlt
  have hdo := Hok.out d (List.mem_of_getElem? hdl)
  obtain ⟨c0, c1, c2⟩ := rec_at hc hdl
  have RA := hU (recAt_one hdl)
  have HDO := hU hdo
  have AT := hU (fun (W : World) (hW : Ext w W) => l12At_any (some ⟨b, off, none⟩) c l d W (HR.out.ext hW).reads (by omega))
  clear hc hd hdl hdo
  cases p1 : receiptOk d
  · have E := hU (show fin = false by rw [F.out]; exact allTo_bad (k := k) (by rw [RA.out, p1]; rfl) _ hlt)
    go_wp2_with fail
    refine (specReceiptOk_any d _ HDO.out).mono ?_
    rintro e w2 ⟨rfl, h1⟩
    rw [p1]
    replace he := he.next h1
    go_wp2_with fail
    go_ret
    exact ⟨ret_bool E.out.symm, he⟩
  go_wp2_with fail
  refine (specReceiptOk_any d _ HDO.out).mono ?_
  rintro e w2 ⟨rfl, h1⟩
  rw [p1]
  have b0 := (h1.cell (p := ⟨b, off + k * 3, none⟩) hb).trans c0
  have b1 := (h1.cell (p := ⟨b, off + k * 3 + 1, none⟩) hb).trans c1
  have b2 := (h1.cell (p := ⟨b, off + k * 3 + 2, none⟩) hb).trans c2
  replace he := he.next h1
  clear h1 c0 c1 c2
  go_wp2_with fail
  refine (AT.out _ he).mono ?_
  rintro e w3 ⟨rfl, h1⟩
  replace he := he.next h1
  clear h1 b0 b1 b2
  obtain ⟨z, hz⟩ : ∃ z, z = idxB (fun x : ReceiptD => x.eqb d) l := ⟨_, rfl⟩
  rw [← hz] at RA
  rw [← hz]
  clear hz
  by_cases p2 : z = (k : Int)
  · have E := hU (show allTo (recAt l) (k + 1) = true from allTo_good Hi.out (by rw [RA.out, p1, beq_iff_eq.2 p2]; rfl))
    go_wp2_with fail
    go_roundw
    case rel => exact ⟨k + 1, by omega, by go_num, E.out, he⟩
    case measure => simp [intOf]; omega
  · have E := hU (show fin = false by rw [F.out]; exact allTo_bad (k := k) (by rw [RA.out, p1, beq_false_of_ne p2]; rfl) _ hlt)
    go_wp2_with fail
    go_ret
    exact ⟨ret_bool E.out.symm, he⟩
end Go.Proofs.YtlgdghpnfclgpaaGreat

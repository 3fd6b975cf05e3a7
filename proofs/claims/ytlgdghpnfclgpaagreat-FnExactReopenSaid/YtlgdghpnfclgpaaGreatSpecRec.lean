/-
  impl.Reopen: walk. Written by program (gen_reopen2.py). No condition.
  The reference's Unframe: walk. No condition.
  The reference's ReadReceipt: walk. No condition.
-/
import Derived.Test.YtlgdghpnfclgpaaGreatRecs
import Derived.Test.YtlgdghpnfclgpaaGreatBrkNew
import Derived.Test.YtlgdghpnfclgpaaGreatReadRec
namespace Go.Proofs.YtlgdghpnfclgpaaGreat
set_option linter.unusedSimpArgs false
open Go.RowKit
set_option linter.unusedVariables false
theorem ret_row_two {P : Program} {fn : Func} {R : Ending → World → Prop} {a : Act} {w : World} {p u v : Tmp} {ty g t : Nat} {cs : Array Value} {d : TypeDesc} (h : fn.results = #[.cell p ty, .tmp u, .tmp v])
 (hp : a.tmps.getD p undef = .pointer (some ⟨g, 0, none⟩)) (hB : Blk w g t cs) (hu : P.underlying ty = some d) (hd : (match d with | .struct _ | .array _ _ => true | _ => false) = true) (hi : (P.info? ty).map (·.size) = some cs.size)
 (hdef : a.defers = []) (hR : R (.returned (.tuple #[.agg cs, a.tmps.getD u undef, a.tmps.getD v undef])) w) : bodyPost P fn R .ret a w := by
 refine bodyPost_ret (v := .tuple #[.agg cs, a.tmps.getD u undef, a.tmps.getD v undef]) ?_ hdef hR
 have hp' : a.tmps[p]?.getD undef = .pointer (some ⟨g, 0, none⟩) := by simpa using hp
 simp [results, h, hp', asAddr, Sem.run_bind, Result.andThen, run_loadVar_row w g t ty cs (0, 0) d hB hu hd hi]
set_option maxHeartbeats 4000000 in
set_option maxRecDepth 100000 in
theorem implReopen_no (n : Int) (A : Option Addr) (c : Nat) (l : List ByteArray) (w : World) (hr : ReadsL w w.heap.size sone 1 A l) (hl : l.length ≤ 1048576) (h1 : (inR n 1 32 && diskOk l) = false) :
 Calls Tryz.prog 25 #[.int .i64 n, .agg #[.slice A l.length c]] w fun e w' => e = .returned (.tuple #[.agg #[.int .i64 0, .slice none 0 0, .slice none 0 0, .slice none 0 0, .int .i64 0, .slice none 0 0, .int .i64 0, .slice none 0 0, .int .i64 0, .int .i64 0, .string ⟨#[]⟩, .int .i64 0, .string ⟨#[]⟩], .slice none 0 0, .int .i64 1]) ∧ Ext w w' := by
 have K0 := Lib.hid (Blk.new w 27 #[.slice A l.length c])
 have He0 := Ext.new (Below.refl w.heap.size w) (.cells #[.slice A l.length c] 27)
 have HR := Lib.hid hr
 clear hr
 obtain ⟨w0, hw0⟩ : ∃ w0, w0 = w.alloc (.cells #[.slice A l.length c] 27) := ⟨_, rfl⟩
 have hs0 : w0.heap.size = w.heap.size + 1 := by rw [hw0, World.size_alloc]
 rw [← hw0] at He0
 have K0' := K0.out
 rw [← hw0] at K0'
 have KA := (K0'.alloc (.cells #[.int .i64 0, .slice none 0 0, .slice none 0 0, .slice none 0 0, .int .i64 0, .slice none 0 0, .int .i64 0, .slice none 0 0, .int .i64 0, .int .i64 0, .string ⟨#[]⟩, .int .i64 0, .string ⟨#[]⟩] 59))
 have KB := (Blk.new w0 59 #[.int .i64 0, .slice none 0 0, .slice none 0 0, .slice none 0 0, .int .i64 0, .slice none 0 0, .int .i64 0, .slice none 0 0, .int .i64 0, .int .i64 0, .string ⟨#[]⟩, .int .i64 0, .string ⟨#[]⟩])
 have He := He0.new (.cells #[.int .i64 0, .slice none 0 0, .slice none 0 0, .slice none 0 0, .int .i64 0, .slice none 0 0, .int .i64 0, .slice none 0 0, .int .i64 0, .int .i64 0, .string ⟨#[]⟩, .int .i64 0, .string ⟨#[]⟩] 59)
 obtain ⟨w1, hw1⟩ : ∃ w1, w1 = w0.alloc (.cells #[.int .i64 0, .slice none 0 0, .slice none 0 0, .slice none 0 0, .int .i64 0, .slice none 0 0, .int .i64 0, .slice none 0 0, .int .i64 0, .int .i64 0, .string ⟨#[]⟩, .int .i64 0, .string ⟨#[]⟩] 59) := ⟨_, rfl⟩
 rw [← hw1] at KA KB He
 have W0 := Lib.hid hw0; have W1 := Lib.hid hw1
 rw [hs0] at KB
 obtain ⟨ac, af⟩ := KA.rules
 obtain ⟨bc, bf⟩ := KB.rules
 clear K0 K0' He0 hw0 hw1 hs0
 have T3 := Lib.hid (KB.there 0 13 (by simp))
 obtain ⟨w4, hw4, hz, hx⟩ : ∃ w4, w4 = w1.setCells (w.heap.size + 1) 0 [.int .i64 0, .slice none 0 0, .slice none 0 0, .slice none 0 0, .int .i64 0, .slice none 0 0, .int .i64 0, .slice none 0 0, .int .i64 0, .int .i64 0, .string ⟨#[]⟩, .int .i64 0, .string ⟨#[]⟩] ∧ Blk w4 (w.heap.size + 1) 59 #[.int .i64 0, .slice none 0 0, .slice none 0 0, .slice none 0 0, .int .i64 0, .slice none 0 0, .int .i64 0, .slice none 0 0, .int .i64 0, .int .i64 0, .string ⟨#[]⟩, .int .i64 0, .string ⟨#[]⟩] ∧ Ext w w4 := ⟨_, rfl, KB.put 0 [.int .i64 0, .slice none 0 0, .slice none 0 0, .slice none 0 0, .int .i64 0, .slice none 0 0, .int .i64 0, .slice none 0 0, .int .i64 0, .int .i64 0, .string ⟨#[]⟩, .int .i64 0, .string ⟨#[]⟩] #[.int .i64 0, .slice none 0 0, .slice none 0 0, .slice none 0 0, .int .i64 0, .slice none 0 0, .int .i64 0, .slice none 0 0, .int .i64 0, .int .i64 0, .string ⟨#[]⟩, .int .i64 0, .string ⟨#[]⟩] (by simp) rfl, ext_setCells (W := w) (g := w.heap.size + 1) (by omega) [.int .i64 0, .slice none 0 0, .slice none 0 0, .slice none 0 0, .int .i64 0, .slice none 0 0, .int .i64 0, .slice none 0 0, .int .i64 0, .int .i64 0, .string ⟨#[]⟩, .int .i64 0, .string ⟨#[]⟩] 0 _ He⟩
 have HW := Lib.hid hw4; have Z4 := Lib.hid hz; have X4 := Lib.hid hx
 clear hw4 hz hx
 cases b1 : inR n 1 32
 · go_enter Tryz.func25, Tryz.ntmps25
   go_upto_region 1 with fail
   rw [← W0.out]
   rw [← W1.out]
   go_wp2_with (first | (go_at_call 74; refine (isWidth_any _ _).mono ?_; rintro e w' ⟨rfl, rfl⟩; rw [b1]) | (refine wpList_store_list rfl 59 _ _ rfl rfl (w.heap.size + 1) 0 [.int .i64 0, .slice none 0 0, .slice none 0 0, .slice none 0 0, .int .i64 0, .slice none 0 0, .int .i64 0, .slice none 0 0, .int .i64 0, .int .i64 0, .string ⟨#[]⟩, .int .i64 0, .string ⟨#[]⟩] rfl rfl T3.out (by kernel_rfl) (by rfl) ?_; rw [← HW.out]))
   exact ret_row_two rfl rfl Z4.out Tryz.underlying59 rfl (by kernel_rfl) rfl ⟨rfl, X4.out⟩
 · have q1 : diskOk l = false := by rw [b1] at h1; simpa using h1
   clear HW Z4 X4 T3
   have KB := Lib.hid KB
   have he := He
   clear He
   go_enter Tryz.func25, Tryz.ntmps25
   go_upto_region 1 with fail
   rw [← W0.out]
   rw [← W1.out]
   go_wp2_with (go_at_call 74; refine (isWidth_any _ _).mono ?_; rintro e w' ⟨rfl, rfl⟩; rw [b1])
   refine (implDiskOk_any A c l _ (HR.out.ext he) hl).mono ?_
   rintro e w2 ⟨rfl, h2⟩
   rw [q1]
   have K2 := KB.out.ext h2
   have he2 := he.next h2
   have T4 := Lib.hid (K2.there 0 13 (by simp))
   obtain ⟨w5, hw5, hz, hx⟩ : ∃ w5, w5 = w2.setCells (w.heap.size + 1) 0 [.int .i64 0, .slice none 0 0, .slice none 0 0, .slice none 0 0, .int .i64 0, .slice none 0 0, .int .i64 0, .slice none 0 0, .int .i64 0, .int .i64 0, .string ⟨#[]⟩, .int .i64 0, .string ⟨#[]⟩] ∧ Blk w5 (w.heap.size + 1) 59 #[.int .i64 0, .slice none 0 0, .slice none 0 0, .slice none 0 0, .int .i64 0, .slice none 0 0, .int .i64 0, .slice none 0 0, .int .i64 0, .int .i64 0, .string ⟨#[]⟩, .int .i64 0, .string ⟨#[]⟩] ∧ Ext w w5 := ⟨_, rfl, K2.put 0 [.int .i64 0, .slice none 0 0, .slice none 0 0, .slice none 0 0, .int .i64 0, .slice none 0 0, .int .i64 0, .slice none 0 0, .int .i64 0, .int .i64 0, .string ⟨#[]⟩, .int .i64 0, .string ⟨#[]⟩] #[.int .i64 0, .slice none 0 0, .slice none 0 0, .slice none 0 0, .int .i64 0, .slice none 0 0, .int .i64 0, .slice none 0 0, .int .i64 0, .int .i64 0, .string ⟨#[]⟩, .int .i64 0, .string ⟨#[]⟩] (by simp) rfl, ext_setCells (W := w) (g := w.heap.size + 1) (by omega) [.int .i64 0, .slice none 0 0, .slice none 0 0, .slice none 0 0, .int .i64 0, .slice none 0 0, .int .i64 0, .slice none 0 0, .int .i64 0, .int .i64 0, .string ⟨#[]⟩, .int .i64 0, .string ⟨#[]⟩] 0 _ he2⟩
   have HW := Lib.hid hw5; have Z4 := Lib.hid hz; have X4 := Lib.hid hx
   clear hw5 hz hx
   go_wp2_with (refine wpList_store_list rfl 59 _ _ rfl rfl (w.heap.size + 1) 0 [.int .i64 0, .slice none 0 0, .slice none 0 0, .slice none 0 0, .int .i64 0, .slice none 0 0, .int .i64 0, .slice none 0 0, .int .i64 0, .int .i64 0, .string ⟨#[]⟩, .int .i64 0, .string ⟨#[]⟩] rfl rfl T4.out (by kernel_rfl) (by rfl) ?_; rw [← HW.out])
   exact ret_row_two rfl rfl Z4.out Tryz.underlying59 rfl (by kernel_rfl) rfl ⟨rfl, X4.out⟩
end Go.Proofs.YtlgdghpnfclgpaaGreat
namespace Go.Proofs.YtlgdghpnfclgpaaGreat
set_option linter.unusedSimpArgs false
open Go.RowKit
set_option linter.unusedVariables false
theorem faOk_short {T : ByteArray} {p : Nat} (h : ¬ p + 6 + faN T p ≤ T.size) : faOk T p = false := by
 cases b : faOk T p
 · rfl
 · exact absurd (fa_bad b) h
theorem frameOut_le (T : ByteArray) : (frameOut T).size ≤ T.size + 6 := by
 unfold frameOut
 split
 · rename_i h
   have := dig4_size h
   have := lowB_size T.size 2
   rw [frameB, ByteArray.size_append, ByteArray.size_append]; omega
 · exact Nat.zero_le _
set_option maxHeartbeats 4000000 in
set_option maxRecDepth 100000 in
theorem specUnframe_any (T : ByteArray) (w : World) (hT : T.size ≤ 1099511627776) :
 Calls Tryz.prog 64 #[.string T] w fun e w' => ∃ v, e = .returned (.tuple #[v, .int .i64 ((unf T).2 : Int)]) ∧ OwnS w w' v (unf T).1 ∧ Ext w w' := by
 by_cases hbig : 300000 < T.size
 · have E := Lib.hid (show unf T = ([], 0) by rw [unf, if_neg (by omega)])
   have H0 := Lib.hid (ownsRow_empty w 9 1)
   have HE := Lib.hid (Ext.new (Below.refl w.heap.size w) (.cells #[] 9))
   go_enter Tryz.func64, Tryz.ntmps64
   go_wp2_with fail
   go_ret2
   exact ⟨_, by rw [E.out]; rfl, by rw [E.out]; exact H0.out, HE.out⟩
 obtain ⟨fin, hfin⟩ : ∃ fin, fin = unf T := ⟨_, rfl⟩
 have Hi : UInv T fin [] 0 := by rw [hfin, unf, if_pos (by omega)]; exact ⟨by simp, Nat.zero_le _, rfl, rfl⟩
 rw [← hfin]
 clear hfin
 obtain ⟨i0, hi, hz0, hz1, hz2⟩ := info_parts info_str
 have H0 := Lib.hid (ownsRow_empty w 9 1)
 have HE := Lib.hid (Ext.new (Below.refl w.heap.size w) (.cells #[] 9))
 go_enter Tryz.func64, Tryz.ntmps64
 go_wp2_with fail
 obtain ⟨B, hB⟩ : ∃ B, B = w.heap.size := ⟨_, rfl⟩
 rw [← hB] at H0
 rw [← hB]
 have Hb : w.heap.size ≤ B := by omega
 have HB := Lib.hid hB
 clear hB
 go_loopw [4, 5] (fun v x wr => ∃ (l : List ByteArray) (p : Nat), UInv T fin l p ∧ x = .int .i64 (p : Int) ∧ wr.ownsRow B 9 1 v l.length (svals l) ∧ Ext w wr) (fun _ x _ => T.size - (intOf x).toNat)
 case atStart => exact ⟨[], 0, Hi, rfl, H0.out, HE.out⟩
 case round =>
  clear H0 HE Hi
  obtain ⟨l, p, hu, rfl, hown, he⟩ := hrel
  obtain ⟨A, c, rfl, hnc⟩ := ownsRow_form hown
  have KO := Lib.hid hown
  clear hown
  have hul := hu.len
  have hup := hu.pos
  by_cases hlt : l.length < 600
  case neg =>
   have d1 : decide ((l.length : Int) < 600) = false := by rw [decide_eq_false_iff_not]; omega
   obtain ⟨e1, e2⟩ := hu.done (by omega)
   have HF : Hid (OwnS w wr (.slice A l.length c) fin.1) := Lib.hid (by have := KO.out; rw [HB.out, e1] at this; unfold OwnS; rw [e1]; exact this)
   have HP := Lib.hid e2
   clear e1 e2 hu KO
   go_wp2_with fail
   go_ret2
   exact ⟨_, by show Ending.returned (.tuple #[.slice A l.length c, .int .i64 (p : Int)]) = _; rw [HP.out], HF.out, he⟩
  have d1 : decide ((l.length : Int) < 600) = true := by rw [decide_eq_true_eq]; omega
  by_cases hs6 : p + 6 ≤ T.size
  case neg =>
   have d2 : decide ((6 : Int) ≤ (T.size : Int) - (p : Int)) = false := by rw [decide_eq_false_iff_not]; omega
   obtain ⟨e1, e2⟩ := hu.stop hlt (faOk_short (by omega))
   have HF : Hid (OwnS w wr (.slice A l.length c) fin.1) := Lib.hid (by have := KO.out; rw [HB.out, e1] at this; unfold OwnS; rw [e1]; exact this)
   have HP := Lib.hid e2
   clear e1 e2 hu KO
   go_wp2_with fail
   go_ret2
   exact ⟨_, by show Ending.returned (.tuple #[.slice A l.length c, .int .i64 (p : Int)]) = _; rw [HP.out], HF.out, he⟩
  have d2 : decide ((6 : Int) ≤ (T.size : Int) - (p : Int)) = true := by rw [decide_eq_true_eq]; omega
  have p4 : p < T.size := by omega
  have p5 : p + 1 < T.size := by omega
  have hN := faN_two hs6
  have x1 := (T[p]'p4).toNat_lt
  have x2 := (T[p + 1]'p5).toNat_lt
  obtain ⟨N, hNe⟩ : ∃ N, N = faN T p := ⟨_, rfl⟩
  rw [← hNe] at hN
  have hNl : N < 65536 := by omega
  have w5 : IntKind.i64.wrap (256 * ((T[p]'p4).toNat : Int) + ((T[p + 1]'p5).toNat : Int)) = (N : Int) := by rw [hN]; rw [IntWalk.i64_in _ (by omega)]; omega
  have w4 : IntKind.i64.wrap (256 * ((T[p]'p4).toNat : Int)) = 256 * ((T[p]'p4).toNat : Int) := IntWalk.i64_in _ (by omega)
  have w3 : IntKind.i64.wrap ((T[p + 1]'p5).toNat : Int) = ((T[p + 1]'p5).toNat : Int) := IntWalk.i64_in _ (by omega)
  have w2 : IntKind.i64.wrap ((T[p]'p4).toNat : Int) = ((T[p]'p4).toNat : Int) := IntWalk.i64_in _ (by omega)
  have w1 : IntKind.i64.wrap ((p : Int) + 1) = (p : Int) + 1 := IntWalk.i64_in _ (by omega)
  have p0 : (0 : Int) ≤ (p : Int) := by omega
  have p1 : (p : Int) < (T.size : Int) := by omega
  have p2 : (p : Int) + 1 < (T.size : Int) := by omega
  have p3 : (0 : Int) ≤ (p : Int) + 1 := by omega
  have HNe := Lib.hid hNe
  clear hN x1 x2 hNe
  go_wp2_with fail
  go_quiet (fail)
  clear w1 w2 w3 w4 w5
  replace he := he.drewN nq
  have KO1 : Hid ((wr.drewN nq).ownsRow B 9 1 (.slice A l.length c) l.length (svals l)) := Lib.hid KO.out
  clear KO
  generalize wr.drewN nq = w1 at *
  by_cases hfit : p + 6 + N ≤ T.size
  case neg =>
   have d3 : decide ((T.size : Int) - (p : Int) - 6 < (N : Int)) = true := by rw [decide_eq_true_eq]; omega
   obtain ⟨e1, e2⟩ := hu.stop hlt (faOk_short (by rw [← HNe.out]; exact hfit))
   have HF : Hid (OwnS w w1 (.slice A l.length c) fin.1) := Lib.hid (by have := KO1.out; rw [HB.out, e1] at this; unfold OwnS; rw [e1]; exact this)
   have HP := Lib.hid e2
   clear e1 e2 hu KO1
   go_wp2_with fail
   go_ret2
   exact ⟨_, by show Ending.returned (.tuple #[.slice A l.length c, .int .i64 (p : Int)]) = _; rw [HP.out], HF.out, he⟩
  have d3 : decide ((T.size : Int) - (p : Int) - 6 < (N : Int)) = false := by rw [decide_eq_false_iff_not]; omega
  have Hx := Lib.hid (fa_all (T := T) (p := p) (by rw [← HNe.out]; exact hfit)).2
  have Ht := Lib.hid (fa_test (T := T) (p := p) (by rw [← HNe.out]; exact hfit))
  rw [← HNe.out] at Hx Ht
  have e6 : ((p : Int) + 6 + (N : Int)).toNat = p + 6 + N := by omega
  have hxs : (T.extract (p + 6) (p + 6 + N)).size = N := by rw [ByteArray.size_extract]; omega
  obtain ⟨x, hx⟩ : ∃ x, x = T.extract (p + 6) (p + 6 + N) := ⟨_, rfl⟩
  rw [← hx] at Hx hxs
  have hfl := frameOut_le x
  have Hfl := Lib.hid hfl
  have Hxs := Lib.hid hxs
  clear hfl
  go_wp2_with fail
  rw [← hx]
  clear hx
  refine (specFrame_any x _ (by unfold maxLen; omega)).mono ?_
  rintro e w2 ⟨rfl, h1⟩
  replace he := he.next h1
  have KO2 := Lib.hid (ownsRow_ext KO1.out h1)
  clear h1 KO1
  rw [hxs]
  clear hxs
  obtain ⟨fo, hfo⟩ : ∃ fo, fo = frameOut x := ⟨_, rfl⟩
  have Ht2 := Lib.hid (show faOk T p = (inR (N : Int) 1 1000 && (fo.toList == (T.extract p (p + 6 + N)).toList)) by rw [Ht.out, Hx.out, hfo])
  rw [← hfo]
  clear hfo Ht
  cases bin : inR (N : Int) 1 1000
  case false =>
   obtain ⟨e1, e2⟩ := hu.stop hlt (by rw [Ht2.out, bin]; rfl)
   have HF : Hid (OwnS w w2 (.slice A l.length c) fin.1) := Lib.hid (by have := KO2.out; rw [HB.out, e1] at this; unfold OwnS; rw [e1]; exact this)
   have HP := Lib.hid e2
   clear e1 e2 hu KO2
   go_wp2_with fail
   go_ret2
   exact ⟨_, by show Ending.returned (.tuple #[.slice A l.length c, .int .i64 (p : Int)]) = _; rw [HP.out], HF.out, he⟩
  cases beq : (fo.toList == (T.extract p (p + 6 + N)).toList)
  case false =>
   obtain ⟨e1, e2⟩ := hu.stop hlt (by rw [Ht2.out, bin, beq]; rfl)
   have HF : Hid (OwnS w w2 (.slice A l.length c) fin.1) := Lib.hid (by have := KO2.out; rw [HB.out, e1] at this; unfold OwnS; rw [e1]; exact this)
   have HP := Lib.hid e2
   clear e1 e2 hu KO2
   go_wp2_with fail
   go_ret2
   exact ⟨_, by show Ending.returned (.tuple #[.slice A l.length c, .int .i64 (p : Int)]) = _; rw [HP.out], HF.out, he⟩
  have hok : faOk T p = true := by rw [Ht2.out, bin, beq]; rfl
  have hq := faOk_pos hok
  rw [← HNe.out] at hq
  have Hu := Lib.hid (show UInv T fin (l ++ [x]) (p + 6 + N) by have := hu.step hlt hok; rwa [Hx.out, hq.1] at this)
  clear hu hok hq
  have hB2 : B ≤ w2.heap.size := by have := he.size; have := HB.out; omega
  go_wp2_with (at_builtin; refine wpList_append_own _ rfl _ _ 22 rfl B 9 i0 (.string ⟨#[]⟩) 1 16 Tryz.underlying22 hi hz0 hz1 hz2 rfl (by decide) _ _ _ rfl (KO2.out.alloc _) ⟨w2.heap.size, 0, none⟩ 1 1 [.string x] rfl rfl ?c1 ?c2 ?c3 ?c4 ?c5 ?_)
  case c1 => exact one_at _ _ _
  case c2 => exact one_cell rfl
  case c3 => unfold maxLen; omega
  case c4 => omega
  case c5 => simp; omega
  intro v' w3 hown' hgrow _
  have he1 := Ext.ownGrown (Ext.new he _) (KO2.out.alloc _) hgrow Hb
  rw [svals_snoc] at hown'
  have KO' := Lib.hid hown'
  clear hown' hgrow KO2 he
  go_wp2_with fail
  go_roundw
  case rel => exact ⟨l ++ [x], p + 6 + N, Hu.out, congrArg (Value.int .i64) (by omega), by have := KO'.out; simpa using this, he1⟩
  case measure => simp [intOf]; omega
end Go.Proofs.YtlgdghpnfclgpaaGreat
namespace Go.Proofs.YtlgdghpnfclgpaaGreat
set_option linter.unusedSimpArgs false
open Go.RowKit
set_option linter.unusedVariables false
def rrSpec (T : ByteArray) : Bool := !(rr4 T).bad && (receiptOk (rrD T) && (receiptText (rrD T)).toList == T.toList)
set_option maxHeartbeats 2000000 in
set_option maxRecDepth 100000 in
theorem specReadReceipt_any (T : ByteArray) (w : World) (hT : T.size ≤ 1099511627776) :
 Calls Tryz.prog 67 #[.string T] w fun e w' => e = rrRes (rrSpec T) (rrD T) ∧ Ext w w' := by
 go_enter Tryz.func67, Tryz.ntmps67
 go_wp2_with fail
 have hR := (Blk.new w 77 #[.string ⟨#[]⟩, .string ⟨#[]⟩, .int .i64 0]).alloc (.cells #[.string T, .int .i64 0, .bool false] 172)
 have hB : Blk _ _ 172 (rdCells T rr0) := Blk.new (w.alloc (.cells #[.string ⟨#[]⟩, .string ⟨#[]⟩, .int .i64 0] 77)) 172 #[.string T, .int .i64 0, .bool false]
 have he := Ext.new (Ext.new (Below.refl w.heap.size w) (.cells #[.string ⟨#[]⟩, .string ⟨#[]⟩, .int .i64 0] 77)) (.cells #[.string T, .int .i64 0, .bool false] 172)
 simp only [World.size_alloc] at hB
 refine (l03Take_any _ T rr0 1 _ hB (Nat.zero_le _) hT (by decide)).mono ?_
 rintro e w1 ⟨rfl, hB, hx⟩
 replace hR := hR.extBut hx (by omega); replace he := he.nextBut (by omega) hx; clear hx
 go_wp2_with fail
 have hgl := hB.lt
 have hD := Blk.new w1 77 #[.string ⟨#[]⟩, .string ⟨#[]⟩, .int .i64 0]
 replace hR := hR.alloc (.cells #[.string ⟨#[]⟩, .string ⟨#[]⟩, .int .i64 0] 77)
 replace hB := hB.alloc (.cells #[.string ⟨#[]⟩, .string ⟨#[]⟩, .int .i64 0] 77)
 replace he := he.new (.cells #[.string ⟨#[]⟩, .string ⟨#[]⟩, .int .i64 0] 77)
 refine (l03ReadShort_any _ T (rr1 T) _ hB (rdNext_pos _ _ _ (Nat.zero_le _)) hT).mono ?_
 rintro e w2 ⟨rfl, hB, hx⟩
 replace hR := hR.extBut hx (by omega); replace hD := hD.extBut hx (by omega); replace he := he.nextBut (by omega) hx; clear hx
 obtain ⟨g2, hg2⟩ : ∃ g2, g2 = w1.heap.size := ⟨_, rfl⟩
 rw [← hg2] at hD hgl
 rw [← hg2]
 have hq1 : ¬ w.heap.size = g2 := by omega
 have hq2 : ¬ w.heap.size + 1 = g2 := by omega
 clear hg2
 obtain ⟨hc, hf⟩ := hD.rules
 go_wp2_with fail
 clear hc hf
 replace hR := hR.far (p := ⟨g2, 0, none⟩) hq1 (.string (rdShort T (rr1 T) 1))
 replace hB := hB.far (p := ⟨g2, 0, none⟩) hq2 (.string (rdShort T (rr1 T) 1))
 replace hD := hD.set_ 0 (.string (rdShort T (rr1 T) 1))
 replace he : Ext w _ := Below.setCell he (p := ⟨g2, 0, none⟩) (by show w.heap.size ≤ g2; omega) (.string (rdShort T (rr1 T) 1))
 refine (l03ReadShort_any _ T (rr2 T) _ hB (rdShortNext_pos _ _ _ (rdNext_pos _ _ _ (Nat.zero_le _))) hT).mono ?_
 rintro e w3 ⟨rfl, hB, hx⟩
 replace hR := hR.extBut hx (by omega); replace hD := hD.extBut hx (by omega); replace he := he.nextBut (by omega) hx; clear hx
 obtain ⟨hc, hf⟩ := hD.rules
 go_wp2_with fail
 clear hc hf
 replace hR := hR.far (p := ⟨g2, 1, none⟩) hq1 (.string (rdShort T (rr2 T) 1))
 replace hB := hB.far (p := ⟨g2, 1, none⟩) hq2 (.string (rdShort T (rr2 T) 1))
 replace hD := hD.set_ 1 (.string (rdShort T (rr2 T) 1))
 replace he : Ext w _ := Below.setCell he (p := ⟨g2, 1, none⟩) (by show w.heap.size ≤ g2; omega) (.string (rdShort T (rr2 T) 1))
 refine (l03Read_any _ T (rr3 T) 2 _ hB (rdShortNext_pos _ _ _ (rdShortNext_pos _ _ _ (rdNext_pos _ _ _ (Nat.zero_le _)))) hT (by decide)).mono ?_
 rintro e w4 ⟨rfl, hB, hx⟩
 replace hR := hR.extBut hx (by omega); replace hD := hD.extBut hx (by omega); replace he := he.nextBut (by omega) hx; clear hx
 obtain ⟨hc, hf⟩ := hD.rules
 go_upto_region 7 with fail
 clear hc hf
 replace hR := hR.far (p := ⟨g2, 2, none⟩) hq1 (.int .i64 (beNum (rdTake T (rr3 T) 2) : Int))
 replace hB := hB.far (p := ⟨g2, 2, none⟩) hq2 (.int .i64 (beNum (rdTake T (rr3 T) 2) : Int))
 replace hD := hD.set_ 2 (.int .i64 (beNum (rdTake T (rr3 T) 2) : Int))
 replace he : Ext w _ := Below.setCell he (p := ⟨g2, 2, none⟩) (by show w.heap.size ≤ g2; omega) (.int .i64 (beNum (rdTake T (rr3 T) 2) : Int))
 replace hD : Blk _ g2 77 #[.string (rrD T).reader, .string (rrD T).topic, .int .i64 (rrD T).index] := hD
 replace hB : Blk _ _ 172 (rdCells T (rr4 T)) := hB
 generalize w4.setCell ⟨g2, 2, none⟩ (.int .i64 (beNum (rdTake T (rr3 T) 2) : Int)) = w5 at *
 have hk := rrD_ok T hT
 obtain ⟨hc, hf⟩ := hD.rules
 go_wp2_with fail
 refine (specReceiptText_any (rrD T) _ hk).mono ?_
 rintro e w6 ⟨rfl, h1⟩
 replace hR := hR.ext h1; replace hD := hD.ext h1; replace hB := hB.ext h1; replace he := he.next h1; clear h1 hc hf
 obtain ⟨hc, hf⟩ := hD.rules
 obtain ⟨hrc, hrf⟩ := hR.rules
 obtain ⟨hbc, hbf⟩ := hB.rules
 have c2 : w6.cell? ⟨w.heap.size + 1, 2, none⟩ = some (.bool (rr4 T).bad) := hbc 2
 clear hbc
 cases b1 : (rr4 T).bad
 · cases b2 : receiptOk (rrD T)
   · have Hi := Lib.hid (show rrSpec T = false by simp [rrSpec, b1, b2])
     rw [b1] at c2
     go_wp2_with fail
     have hz := hR.put 0 ReceiptD.zero.cells ReceiptD.zero.cells.toArray (by decide) rfl
     have hx := ext_setCells (W := w) (g := w.heap.size) (Nat.le_refl _) ReceiptD.zero.cells 0 w6 he
     refine ret_row_tmp rfl rfl hz Tryz.underlying77 rfl (by kernel_rfl) rfl ⟨?_, hx⟩
     rw [Hi.out]; rfl
   · cases b3 : ((receiptText (rrD T)).toList == T.toList)
     · have Hi := Lib.hid (show rrSpec T = false by simp only [rrSpec, b1, b2, b3]; rfl)
       rw [b1] at c2
       go_wp2_with fail
       have hz := hR.put 0 ReceiptD.zero.cells ReceiptD.zero.cells.toArray (by decide) rfl
       have hx := ext_setCells (W := w) (g := w.heap.size) (Nat.le_refl _) ReceiptD.zero.cells 0 w6 he
       refine ret_row_tmp rfl rfl hz Tryz.underlying77 rfl (by kernel_rfl) rfl ⟨?_, hx⟩
       rw [Hi.out]; rfl
     · have Hi := Lib.hid (show rrSpec T = true by simp only [rrSpec, b1, b2, b3]; rfl)
       rw [b1] at c2
       go_wp2_with fail
       have hz := hR.put 0 (rrD T).cells (rrD T).cells.toArray (by simp [ReceiptD.cells]) rfl
       have hx := ext_setCells (W := w) (g := w.heap.size) (Nat.le_refl _) (rrD T).cells 0 w6 he
       refine ret_row_tmp rfl rfl hz Tryz.underlying77 rfl (by kernel_rfl) rfl ⟨?_, hx⟩
       rw [Hi.out]; rfl
 · have Hi := Lib.hid (show rrSpec T = false by simp [rrSpec, b1])
   rw [b1] at c2
   go_wp2_with fail
   have hz := hR.put 0 ReceiptD.zero.cells ReceiptD.zero.cells.toArray (by decide) rfl
   have hx := ext_setCells (W := w) (g := w.heap.size) (Nat.le_refl _) ReceiptD.zero.cells 0 w6 he
   refine ret_row_tmp rfl rfl hz Tryz.underlying77 rfl (by kernel_rfl) rfl ⟨?_, hx⟩
   rw [Hi.out]; rfl
end Go.Proofs.YtlgdghpnfclgpaaGreat

/-
  Reopen4; MendWk; RpnLw; RpnFx: No condition.
-/
import Derived.Test.YthnpdoadmglipaaGreatMarkWrite
import Derived.Test.YthnpdoadmglipaaGreatReopen2
import Derived.Test.YthnpdoadmglipaaGreatUnfrLaw
import Derived.Test.YthnpdoadmglipaaGreatNodeW
import Derived.Test.YthnpdoadmglipaaGreatSealB
import Derived.Test.YthnpdoadmglipaaGreatBrkS
import Derived.Test.YthnpdoadmglipaaGreatReopen1
import Derived.Deep.CutRange
import Derived.Deep.Light
import Derived.Test.YthnpdoadmglipaaGreatReopen3
import Derived.Test.YthnpdoadmglipaaGreatMem
import Derived.Test.YthnpdoadmglipaaGreatDiskW
import Derived.Test.YthnpdoadmglipaaGreatRows
namespace Go.Proofs.YthnpdoadmglipaaGreat
set_option linter.unusedSimpArgs false
open Go.RowKit
set_option linter.unusedVariables false

set_option maxHeartbeats 4000000
set_option maxRecDepth 100000
theorem implReopen_any (n : Int) (A : Option Addr) (c : Nat) (l : List ByteArray) (w : World) (hr : ReadsL w w.heap.size sone 1 A l) (hl : l.length ≤ 1048576) (hsz : ∀ x ∈ l, x.size ≤ 1099511627776) :
 Calls Tryz.prog 15 #[.int .i64 n, .agg #[.slice A l.length c]] w (ReAns n l w) := by
 cases h : (inR n 1 32 && diskOk l)
 · refine (implReopen_no n A c l w hr hl h).mono ?_
   rintro e w' ⟨rfl, hx⟩
   exact ReAns.bad (re1 h) (by decide) rfl (World.ownsRow_nil _ _ _ _) hx
 · exact implReopen_yes n A c l w hr hl hsz h
def mendB (n : Int) (l : List ByteArray) : Bool := decide (reCode n l = 0) && decide ((reW n l).length = 0)
theorem implMended_any (n : Int) (A : Option Addr) (c : Nat) (l : List ByteArray) (w : World) (hr : ReadsL w w.heap.size sone 1 A l) (hl : l.length ≤ 1048576) (hsz : ∀ x ∈ l, x.size ≤ 1099511627776) :
 Calls Tryz.prog 17 #[.int .i64 n, .agg #[.slice A l.length c]] w fun e w' => e = .returned (.bool (mendB n l)) ∧ Ext w w' := by
 have K0 := Blk.new w 46 #[.slice A l.length c]
 have he := Ext.new (Below.refl w.heap.size w) (.cells #[.slice A l.length c] 46)
 have CL := hU (implReopen_any n A c l _ (hr.ext he) hl hsz)
 obtain ⟨kc, kf⟩ := K0.rules
 obtain ⟨fin, hfin⟩ : ∃ fin, fin = mendB n l := ⟨_, rfl⟩
 rw [← hfin]
 have FN := hU hfin
 clear hfin hr hsz
 go_enter Tryz.func17, Tryz.ntmps17
 go_wp2_with fail
 refine CL.out.mono ?_
 rintro e w1 ⟨ve, vr, vh, v1, v2, vw, rfl, hb, ha, ho, h1⟩
 replace he := he.next h1
 obtain ⟨b, hbb⟩ : ∃ b, b = reBB n l := ⟨_, rfl⟩
 obtain ⟨cc, hcc⟩ : ∃ cc, cc = reCode n l := ⟨_, rfl⟩
 obtain ⟨N, hN⟩ : ∃ N, N = (reW n l).length := ⟨_, rfl⟩
 rw [← hbb] at hb
 rw [← hN] at ho
 rw [← hbb, ← hcc]
 rw [mendB, ← hcc, ← hN] at FN
 obtain ⟨E0, e0, rfl, _⟩ := ownsRow_form hb.e
 obtain ⟨E1, e1, rfl, _⟩ := ownsRow_form hb.r
 obtain ⟨E2, e2, rfl, _⟩ := ownsRow_form hb.h
 obtain ⟨E3, e3, rfl, _⟩ := ownsRow_form hb.p
 obtain ⟨E4, e4, rfl, _⟩ := ownsRow_form hb.q
 obtain ⟨V, cv, rfl, _⟩ := ownsRow_form ho
 clear hbb hcc hN hb ha ho h1 CL K0 kc kf
 simp only [brkCs]
 have KV0 := Blk.new w1 37 #[.int .i64 0, .slice none 0 0, .slice none 0 0, .slice none 0 0, .int .i64 0, .slice none 0 0, .int .i64 0, .slice none 0 0, .int .i64 0, .int .i64 0, .string ⟨#[]⟩, .int .i64 0, .string ⟨#[]⟩]
 obtain ⟨w3, hw3, hx⟩ : ∃ w3, w3 = (w1.alloc (.cells #[.int .i64 0, .slice none 0 0, .slice none 0 0, .slice none 0 0, .int .i64 0, .slice none 0 0, .int .i64 0, .slice none 0 0, .int .i64 0, .int .i64 0, .string ⟨#[]⟩, .int .i64 0, .string ⟨#[]⟩] 37)).setCells w1.heap.size 0 [.int .i64 b.width, .slice E0 b.log.entries.length e0, .slice E1 b.receipts.length e1, .slice E2 b.heads.length e2, .int .i64 b.sealed.leaves.size, .slice E3 b.sealed.leaves.peaks.length e3, .int .i64 b.sealed.taken.size, .slice E4 b.sealed.taken.peaks.length e4, .int .i64 b.sealed.head.number, .int .i64 b.sealed.head.size, .string b.sealed.head.root, .int .i64 b.sealed.head.taken, .string b.sealed.head.takenRoot] ∧ Ext w w3 :=
  ⟨_, rfl, ext_setCells (W := w) (g := w1.heap.size) he.size [.int .i64 b.width, .slice E0 b.log.entries.length e0, .slice E1 b.receipts.length e1, .slice E2 b.heads.length e2, .int .i64 b.sealed.leaves.size, .slice E3 b.sealed.leaves.peaks.length e3, .int .i64 b.sealed.taken.size, .slice E4 b.sealed.taken.peaks.length e4, .int .i64 b.sealed.head.number, .int .i64 b.sealed.head.size, .string b.sealed.head.root, .int .i64 b.sealed.head.taken, .string b.sealed.head.takenRoot] 0 _ (he.new _)⟩
 have T4 := hU (KV0.there 0 13 (by simp))
 have HW := hU hw3; have HX := hU hx
 clear hw3 hx KV0 he
 go_upto_region 2 with (refine wpList_store_list rfl 37 _ _ rfl rfl w1.heap.size 0 [.int .i64 b.width, .slice E0 b.log.entries.length e0, .slice E1 b.receipts.length e1, .slice E2 b.heads.length e2, .int .i64 b.sealed.leaves.size, .slice E3 b.sealed.leaves.peaks.length e3, .int .i64 b.sealed.taken.size, .slice E4 b.sealed.taken.peaks.length e4, .int .i64 b.sealed.head.number, .int .i64 b.sealed.head.size, .string b.sealed.head.root, .int .i64 b.sealed.head.taken, .string b.sealed.head.takenRoot] rfl rfl T4.out (by kernel_rfl) (by rfl) ?_; rw [← HW.out])
 clear T4 HW
 rcases Nat.eq_zero_or_pos cc with z0 | z0
 · have z1 : ((cc : Int) == 0) = true := beq_iff_eq.2 (by omega)
   rcases Nat.eq_zero_or_pos N with y0 | y0
   · have y1 : ((N : Int) == 0) = true := beq_iff_eq.2 (by omega)
     have E := hU (show fin = true by rw [FN.out, decide_eq_true z0, decide_eq_true y0]; rfl)
     clear z0 y0
     go_wp2_with fail
     go_ret
     exact ⟨ret_bool E.out.symm, HX.out⟩
   · have y1 : ((N : Int) == 0) = false := beq_false_of_ne (by omega)
     have E := hU (show fin = false by rw [FN.out, decide_eq_true z0, decide_eq_false (by omega)]; rfl)
     clear z0 y0
     go_wp2_with fail
     go_ret
     exact ⟨ret_bool E.out.symm, HX.out⟩
 · have z1 : ((cc : Int) == 0) = false := beq_false_of_ne (by omega)
   have E := hU (show fin = false by rw [FN.out, decide_eq_false (by omega)]; rfl)
   clear z0
   go_wp2_with fail
   go_ret
   exact ⟨ret_bool E.out.symm, HX.out⟩
end Go.Proofs.YthnpdoadmglipaaGreat
namespace Go.Proofs.YthnpdoadmglipaaGreat
set_option maxHeartbeats 16000000
set_option maxRecDepth 100000
set_option linter.unusedSimpArgs false
open Go.RowKit Go.WideShapes Go.ChangeAt
set_option linter.unusedVariables false
theorem byte9_typed {w : World} {n : Nat} {cs : List Value} (h : Typed Tryz.prog w n 5 cs) : ∃ x, cs = byteC x ∧ ByteIn x := by
 obtain ⟨m, rfl, hw⟩ := typed_int Tryz.underlying5 h
 refine ⟨m, rfl, ?_⟩
 simp [Lit.wf, IntKind.min, IntKind.max, IntKind.signed, IntKind.bits] at hw
 exact ⟨by omega, by omega⟩
theorem big9_any (A : Option Addr) (n c : Nat) (w : World) (h : n ≤ maxLen) : Calls Tryz.prog 6 #[.slice A n c] w fun e w' => e = .returned (.bool (decide (1048576 < n))) ∧ w = w' := by
 by_cases hb : 1048576 < n
 · have hd : decide (1048576 < n) = true := decide_eq_true hb
   rw [hd]
   go_enter Tryz.func6, Tryz.ntmps6
   go_wp2_with fail
   go_ret
   exact ⟨ret_bool (by simp; omega), rfl⟩
 · have hd : decide (1048576 < n) = false := decide_eq_false hb
   rw [hd]
   go_enter Tryz.func6, Tryz.ntmps6
   go_wp2_with fail
   go_ret
   exact ⟨ret_bool (by simp; omega), rfl⟩
theorem again_W {b : BrokerD} (hB : brokerB b = true) : reBB b.width (diskT b) = b ∧ reW b.width (diskT b) = [] ∧ reCode b.width (diskT b) = 0 ∧ mendB b.width (diskT b) = true := by
 obtain ⟨h1, h2, h3⟩ := disk_again hB
 have e1 : reW b.width (diskT b) = [] := by rw [reW, if_pos h2, h3]; rfl
 exact ⟨by rw [reBB, if_pos h2, h1], e1, h2, by rw [mendB, h2, e1]; rfl⟩
theorem disk_reads {b : BrokerD} {q : Nat} {w : World} (h : Blk w q 9 #[.string (framesOut (fileT b 0)), .string (framesOut (fileT b 1)), .string (framesOut (fileT b 2))]) : ReadsL w w.heap.size sone 1 (some ⟨q, 0, none⟩) (diskT b) :=
 Blk.reads (xs := [.string (framesOut (fileT b 0)), .string (framesOut (fileT b 1)), .string (framesOut (fileT b 2))]) h 3 1 rfl
theorem disk_small {b : BrokerD} (hB : brokerB b = true) : ∀ x ∈ diskT b, x.size ≤ 1099511627776 := by
 intro x hx
 have f0 := (file_unf hB 0).2; have f1 := (file_unf hB 1).2; have f2 := (file_unf hB 2).2
 simp only [diskT, List.mem_cons, List.not_mem_nil, or_false] at hx
 rcases hx with rfl | rfl | rfl <;> omega
theorem lawReopens_walk (A : Option Addr) (c : Nat) (l : List Int) (w : World) (hlen : l.length ≤ maxLen) (hin : ∀ x ∈ l, ByteIn x) (hr : ReadsL w w.heap.size byteC 1 A l) :
 Calls Tryz.prog 4 #[.slice A l.length c] w fun e w' => e = .returned (.bool true) ∧ Ext w w' := by
 by_cases hb : 1048576 < l.length
 · have hd : decide (1048576 < l.length) = true := decide_eq_true hb
   go_enter Tryz.func4, Tryz.ntmps4
   go_wp2_with (go_at_call 6; refine (big9_any _ _ _ _ hlen).mono ?_; rintro e w' ⟨rfl, rfl⟩; rw [hd])
   go_ret
   exact ⟨rfl, Below.refl _ _⟩
 have hd : decide (1048576 < l.length) = false := decide_eq_false hb
 have Hr := hU hr; clear hr
 have Hin := hU hin; clear hin
 go_enter Tryz.func4, Tryz.ntmps4
 go_wp2_with (go_at_call 6; refine (big9_any _ _ _ _ hlen).mono ?_; rintro e w' ⟨rfl, rfl⟩; rw [hd])
 refine (DrawRight_any A c l _ hlen Hin.out Hr.out).mono ?_
 rintro e w1 ⟨b, M, hB, rfl, hv, he⟩
 have KZ := Blk.new w1 37 #[.int .i64 0, .slice none 0 0, .slice none 0 0, .slice none 0 0, .int .i64 0, .slice none 0 0, .int .i64 0, .slice none 0 0, .int .i64 0, .int .i64 0, .string ⟨#[]⟩, .int .i64 0, .string ⟨#[]⟩]
 obtain ⟨w2, hwa, K3, hx2⟩ : ∃ wa, wa = (w1.alloc (.cells #[.int .i64 0, .slice none 0 0, .slice none 0 0, .slice none 0 0, .int .i64 0, .slice none 0 0, .int .i64 0, .slice none 0 0, .int .i64 0, .int .i64 0, .string ⟨#[]⟩, .int .i64 0, .string ⟨#[]⟩] 37)).setCells w1.heap.size 0 M ∧ Blk wa w1.heap.size 37 M.toArray ∧ Ext w1 wa := ⟨_, rfl, put_whole KZ M (by rw [hv.len]; rfl), ext_setCells (W := w1) (Nat.le_refl _) M 0 _ (Ext.new (Below.refl _ _) _)⟩
 have T4 := hU (show World.there (w1.alloc (.cells #[.int .i64 0, .slice none 0 0, .slice none 0 0, .slice none 0 0, .int .i64 0, .slice none 0 0, .int .i64 0, .slice none 0 0, .int .i64 0, .int .i64 0, .string ⟨#[]⟩, .int .i64 0, .string ⟨#[]⟩] 37)) w1.heap.size 0 M.length by rw [hv.len]; exact KZ.there 0 13 (by simp)); have HW := hU hwa
 have HX13 := hU hv.len; have HX1 := hU hv.one
 have hs1 := he.size
 clear hwa KZ
 replace hv := hv.ext hx2; replace he := he.next hx2
 go_upto_region 4 with (refine wpList_store_list rfl 37 _ _ rfl rfl w1.heap.size 0 M rfl rfl T4.out (by rw [HX13.out]; kernel_rfl) HX1.out ?_; rw [← HW.out])
 obtain ⟨g3, hg3⟩ : ∃ g3, g3 = w1.heap.size := ⟨_, rfl⟩
 rw [← hg3] at K3
 rw [← hg3]
 have hg3w : w.heap.size ≤ g3 := by omega
 clear T4 HW HX1 hx2 hg3 Hr Hin hs1 hd hb
 have hz := (tx_right hB).n
 have DO := hU (fun (W : World) (p : Nat → Prop) (h : BRdL p b M W) => DiskOf_any b M W h hB)
 obtain ⟨FS, hFS⟩ : ∃ FS : Array Value, FS = #[.string (framesOut (fileT b 0)), .string (framesOut (fileT b 1)), .string (framesOut (fileT b 2))] := ⟨_, rfl⟩
 obtain ⟨a1, a2, a3, a4⟩ := again_W hB
 have RO : Hid (∀ (q : Nat) (W : World), Blk W q 9 FS → Calls Tryz.prog 15 #[.int .i64 b.width, .agg #[.slice (some ⟨q, 0, none⟩) 3 3]] W fun e w' => ∃ (N : List Value) (V : Option Addr) (vc : Nat), e = .returned (.tuple #[.agg N.toArray, .slice V 0 vc, .int .i64 0]) ∧ BVal W.heap.size b N w' ∧ Ext W w') := hU (fun q W hk => by
  rw [hFS] at hk
  refine (implReopen_any b.width (some ⟨q, 0, none⟩) 3 (diskT b) W (disk_reads hk) (show (3 : Nat) ≤ 1048576 by decide) (disk_small hB)).mono ?_
  rintro e w' ⟨ve, vr, vh, v1, v2, vw, he, hr, ha, ho, hx⟩
  rw [a1] at hr
  rw [a2] at ho
  rw [a1, a3] at he
  obtain ⟨V, vc, rfl, _⟩ := ownsRow_form ho
  exact ⟨_, V, vc, he, val_of hr ha, hx⟩)
 have MD : Hid (∀ (q : Nat) (W : World), Blk W q 9 FS → Calls Tryz.prog 17 #[.int .i64 b.width, .agg #[.slice (some ⟨q, 0, none⟩) 3 3]] W fun e w' => e = .returned (.bool true) ∧ Ext W w') := hU (fun q W hk => by
  rw [hFS] at hk
  have h2 := implMended_any b.width (some ⟨q, 0, none⟩) 3 (diskT b) W (disk_reads hk) (show (3 : Nat) ≤ 1048576 by decide) (disk_small hB)
  rw [a4] at h2
  exact h2)
 have SB := hU (fun (N : List Value) (p q : Nat → Prop) (W : World) (h1 : BRdL p b N W) (h2 : BRdL q b M W) => sameBroker_same b N M W h1 h2 hz)
 obtain ⟨wd, hwd⟩ : ∃ wd, wd = b.width := ⟨_, rfl⟩
 have BH : ∀ (W : World), Blk W g3 37 M.toArray → W.cell? ⟨g3, 0, none⟩ = some (.int .i64 wd) := fun W h => by
  obtain ⟨X0, x0, X1, x1, X2, x2, X3, x3, X4, x4, hM, _, _⟩ := hv
  rw [hM] at h
  rw [hwd]
  exact h.cell 0
 have BH := hU BH
 rw [← hwd] at RO MD
 rw [← hFS] at DO
 have HV := hU hv; have HE := hU he; have K3H := hU K3
 clear a1 a2 a3 a4 hFS hz hB hv he K3 hwd
 have RX := hU (Blk.range K3H.out)
 go_wp2_with (refine wpList_load_mid rfl 37 _ rfl g3 0 rfl M _ RX.out Tryz.underlying37 rfl (by rw [HX13.out]; kernel_rfl) ?_)
 refine (DO.out _ _ HV.out.rd).mono ?_
 rintro e w3 ⟨q, rfl, hq, kq, h1⟩
 have hx2 := Ext.new (Below.refl w3.heap.size w3) (.cells #[.slice (some ⟨q, 0, none⟩) 3 3] 46)
 have K4 := Blk.new w3 46 #[.slice (some ⟨q, 0, none⟩) 3 3]
 replace HV := hU ((HV.out.ext h1).ext hx2); replace HE := hU ((HE.out.next h1).next hx2); replace K3H := hU ((K3H.out.ext h1).ext hx2)
 have KQ := hU (kq.ext hx2)
 clear h1 hx2 kq DO RX hq
 go_upto_region 5 with fail
 obtain ⟨g4, hg4⟩ : ∃ g4, g4 = w3.heap.size := ⟨_, rfl⟩
 rw [← hg4] at K4
 rw [← hg4]
 clear hg4
 generalize w3.alloc (.cells #[.slice (some ⟨q, 0, none⟩) 3 3] 46) = w4 at *
 have c0 := BH.out _ K3H.out
 obtain ⟨r4, f4⟩ := K4.rules
 go_wp2_with fail
 refine (RO.out q _ KQ.out).mono ?_
 rintro e w5 ⟨N, V, vc, rfl, hn, h1⟩
 replace HV := hU (HV.out.ext h1); replace HE := hU (HE.out.next h1); replace K3H := hU (K3H.out.ext h1); replace KQ := hU (KQ.out.ext h1); replace K4 := K4.ext h1
 clear h1 RO c0 r4 f4
 have KZ := Blk.new w5 37 #[.int .i64 0, .slice none 0 0, .slice none 0 0, .slice none 0 0, .int .i64 0, .slice none 0 0, .int .i64 0, .slice none 0 0, .int .i64 0, .int .i64 0, .string ⟨#[]⟩, .int .i64 0, .string ⟨#[]⟩]
 obtain ⟨w6, hwa, K6, hx2⟩ : ∃ wa, wa = (w5.alloc (.cells #[.int .i64 0, .slice none 0 0, .slice none 0 0, .slice none 0 0, .int .i64 0, .slice none 0 0, .int .i64 0, .slice none 0 0, .int .i64 0, .int .i64 0, .string ⟨#[]⟩, .int .i64 0, .string ⟨#[]⟩] 37)).setCells w5.heap.size 0 N ∧ Blk wa w5.heap.size 37 N.toArray ∧ Ext w5 wa := ⟨_, rfl, put_whole KZ N (by rw [hn.len]; rfl), ext_setCells (W := w5) (Nat.le_refl _) N 0 _ (Ext.new (Below.refl _ _) _)⟩
 have T4 := hU (show World.there (w5.alloc (.cells #[.int .i64 0, .slice none 0 0, .slice none 0 0, .slice none 0 0, .int .i64 0, .slice none 0 0, .int .i64 0, .slice none 0 0, .int .i64 0, .int .i64 0, .string ⟨#[]⟩, .int .i64 0, .string ⟨#[]⟩] 37)) w5.heap.size 0 N.length by rw [hn.len]; exact KZ.there 0 13 (by simp)); have HW := hU hwa
 have N13 := hU hn.len; have N1 := hU hn.one
 have HN := hU (hn.ext hx2)
 replace HV := hU (HV.out.ext hx2); replace HE := hU (HE.out.next hx2); replace K3H := hU (K3H.out.ext hx2); replace KQ := hU (KQ.out.ext hx2); replace K4 := K4.ext hx2
 have K4H := hU K4
 clear hwa KZ hx2 hn K4
 go_upto_region 6 with (refine wpList_store_list rfl 37 _ _ rfl rfl w5.heap.size 0 N rfl rfl T4.out (by rw [N13.out]; kernel_rfl) N1.out ?_; rw [← HW.out])
 obtain ⟨g6, hg6⟩ : ∃ g6, g6 = w5.heap.size := ⟨_, rfl⟩
 rw [← hg6] at K6
 rw [← hg6]
 clear hg6 T4 HW N1
 have R6 := hU (Blk.range K6); have R3 := hU (Blk.range K3H.out)
 clear K6
 go_wp2_with (first | (refine wpList_load_want (by rfl) 37 _ rfl g6 0 rfl N _ R6.out Tryz.underlying37 rfl (by rw [N13.out]; kernel_rfl) ?_) | (refine wpList_load_want (by rfl) 37 _ rfl g3 0 rfl M _ R3.out Tryz.underlying37 rfl (by rw [HX13.out]; kernel_rfl) ?_))
 refine (SB.out N _ _ _ HN.out.rd HV.out.rd).mono ?_
 rintro e w7 ⟨rfl, h1⟩
 replace HE := hU (HE.out.next h1); replace KQ := hU (KQ.out.ext h1)
 have c0 := BH.out _ (K3H.out.ext h1)
 obtain ⟨r4, f4⟩ := (K4H.out.ext h1).rules
 clear h1 R6 R3
 go_wp2_with fail
 refine (MD.out q _ KQ.out).mono ?_
 rintro e w8 ⟨rfl, h1⟩
 go_wp2_with fail
 go_ret
 exact ⟨rfl, HE.out.next h1⟩
end Go.Proofs.YthnpdoadmglipaaGreat
namespace Go.Proofs.YthnpdoadmglipaaGreat
set_option maxHeartbeats 40000000
set_option maxRecDepth 100000
theorem and_two3 {a b : Bool} (h1 : a = true) (h2 : b = true) : (a && b) = true := by rw [h1, h2]; rfl
theorem rpFacts : joinedFacts Tryz.pinned.checked.prog 4 Tryz.f4 Rows.fnReopensSpec Rows.fnReopensRow = true := by
 unfold joinedFacts
 repeat' (with_reducible refine and_two3 ?_ ?_)
 all_goals (as_aux_lemma => kernel_rfl)
end Go.Proofs.YthnpdoadmglipaaGreat

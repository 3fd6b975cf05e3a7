/-
  LeafAt; Recs2; WriteB; LeafI; TakeB: No condition.
-/
import Derived.Test.YtlgdghpnfclgpaaGreatLogOks
import Derived.Test.YtlgdghpnfclgpaaGreatRecs
import Derived.Test.YtlgdghpnfclgpaaGreatMapRec
import Derived.Test.YtlgdghpnfclgpaaGreatTextsB
import Derived.Test.YtlgdghpnfclgpaaGreatFramesLaw
namespace Go.Proofs.YtlgdghpnfclgpaaGreat
set_option maxHeartbeats 2000000
set_option maxRecDepth 100000
set_option linter.unusedSimpArgs false
open Go.RowKit
set_option linter.unusedVariables false
theorem take_none {α : Type} {p : α → Bool} {l : List α} {k : Nat} {d : α} (h : ∀ x ∈ l.take k, p x = false) (hd : l[k]? = some d) (hp : p d = false) : ∀ x ∈ l.take (k + 1), p x = false := by
 obtain ⟨hk, rfl⟩ := List.getElem?_eq_some_iff.1 hd
 intro x hx
 rw [List.take_succ_eq_append_getElem hk, List.mem_append] at hx
 rcases hx with hx | hx
 · exact h x hx
 · obtain rfl := List.mem_singleton.1 hx
   exact hp
theorem l09Leaf_any {B : Nat} (A : Option Addr) (c : Nat) (l : List EntryD) (t : ByteArray) (ix : Int) (w : World) (hr : ReadsL w B EntryD.cells 5 A l) (hl : l.length ≤ 1048576) :
 Calls Tryz.prog 101 #[.slice A l.length c, .string t, .int .i64 ix] w fun e w' => e = .returned (.int .i64 (idxB (ofTI t ix) l)) ∧ w = w' := by
 have HR := hU hr
 obtain ⟨fin, hfin⟩ : ∃ fin, fin = idxB (ofTI t ix) l := ⟨_, rfl⟩
 rw [← hfin]
 have F := hU hfin
 clear hfin hr
 go_enter Tryz.func101, Tryz.ntmps101
 go_wp2_with fail
 go_loopw [7] (fun i wr => ∃ k : Nat, k ≤ l.length ∧ i = .int .i64 k ∧ (∀ x ∈ l.take k, ofTI t ix x = false) ∧ w = wr) (fun i _ => l.length - (intOf i).toNat)
 case atStart => exact ⟨0, Nat.zero_le _, rfl, by simp, rfl⟩
 case round =>
  obtain ⟨k, hk, rfl, hi, rfl⟩ := hrel
  have Hi := hU hi
  clear hi
  by_cases hlt : k < l.length
  case neg =>
   have E := hU (show fin = -1 by rw [F.out]; exact idxB_none (by have := Hi.out; rwa [show k = l.length by omega, List.take_length] at this))
   go_wp2_with fail
   go_ret
   exact ⟨ret_int E.out.symm, rfl⟩
  obtain ⟨b, off, rfl, hb, hc⟩ := Reads.at_ HR.out (k := k) hlt
  obtain ⟨d, hd⟩ : ∃ d, d = l[k] := ⟨_, rfl⟩
  have hdl : l[k]? = some d := by rw [hd]; exact List.getElem?_eq_getElem hlt
  obtain ⟨c0, c1, c2, c3, c4⟩ := entry_at hc hdl
  have Hdl := hU hdl
  have P := hU (show ofTI t ix d = ((d.topic.toList == t.toList) && (d.index == ix)) from rfl)
  clear hc hd hdl
  cases p1 : (d.topic.toList == t.toList)
  · have E := hU (take_none Hi.out Hdl.out (by rw [P.out, p1]; rfl))
    clear P
    go_wp2_with fail
    go_roundw
    case rel => exact ⟨k + 1, by omega, by go_num, E.out, trivial⟩
    case measure => simp [intOf]; omega
  by_cases p2 : d.index = ix
  · have E := hU (show fin = (k : Int) by rw [F.out]; exact idxB_at Hdl.out (by rw [P.out, p1, beq_iff_eq.2 p2]; rfl) Hi.out)
    clear P
    go_wp2_with fail
    go_ret
    exact ⟨ret_int E.out.symm, rfl⟩
  · have E := hU (take_none Hi.out Hdl.out (by rw [P.out, p1, beq_false_of_ne p2]; rfl))
    clear P
    go_wp2_with fail
    go_roundw
    case rel => exact ⟨k + 1, by omega, by go_num, E.out, trivial⟩
    case measure => simp [intOf]; omega
theorem l12At_any (A : Option Addr) (c : Nat) (l : List ReceiptD) (r : ReceiptD) (w : World) (hr : ReadsL w w.heap.size ReceiptD.cells 3 A l) (hl : l.length ≤ 1048576) :
 Calls Tryz.prog 128 #[.slice A l.length c, .agg #[.string r.reader, .string r.topic, .int .i64 r.index]] w fun e w' => e = .returned (.int .i64 (idxB (fun x => x.eqb r) l)) ∧ Ext w w' := by
 have HR := hU hr
 have K0 := hU (Blk.new w 77 #[.string r.reader, .string r.topic, .int .i64 r.index])
 have He := hU (Ext.new (Below.refl w.heap.size w) (.cells #[.string r.reader, .string r.topic, .int .i64 r.index] 77))
 obtain ⟨fin, hfin⟩ : ∃ fin, fin = idxB (fun x : ReceiptD => x.eqb r) l := ⟨_, rfl⟩
 rw [← hfin]
 have F := hU hfin
 clear hfin hr
 go_enter Tryz.func128, Tryz.ntmps128
 go_wp2_with fail
 obtain ⟨g, hg⟩ : ∃ g, g = w.heap.size := ⟨_, rfl⟩
 rw [← hg] at K0
 rw [← hg]
 clear hg
 go_loopw [5] (fun i wr => ∃ k : Nat, k ≤ l.length ∧ i = .int .i64 k ∧ (∀ x ∈ l.take k, x.eqb r = false) ∧ Blk wr g 77 #[.string r.reader, .string r.topic, .int .i64 r.index] ∧ Ext w wr) (fun i _ => l.length - (intOf i).toNat)
 case atStart => exact ⟨0, Nat.zero_le _, rfl, by simp, K0.out, He.out⟩
 case round =>
  clear K0 He
  obtain ⟨k, hk, rfl, hi, k0, he⟩ := hrel
  have Hi := hU hi
  obtain ⟨r0, m0⟩ := k0.rules
  have K0 := hU k0
  clear hi k0
  by_cases hlt : k < l.length
  case neg =>
   have E := hU (show fin = -1 by rw [F.out]; exact idxB_none (by have := Hi.out; rwa [show k = l.length by omega, List.take_length] at this))
   go_wp2_with fail
   go_ret
   exact ⟨ret_int E.out.symm, he⟩
  obtain ⟨b, off, rfl, hb, hc⟩ := Reads.at_ (HR.out.ext he) (k := k) hlt
  obtain ⟨d, hd⟩ : ∃ d, d = l[k] := ⟨_, rfl⟩
  have hdl : l[k]? = some d := by rw [hd]; exact List.getElem?_eq_getElem hlt
  obtain ⟨c0, c1, c2⟩ := rec_at hc hdl
  have Hdl := hU hdl
  have HQ := ReceiptD.run_eql d r
  clear hc hd hdl
  cases p1 : d.eqb r
  · have E := hU (take_none (p := fun x : ReceiptD => x.eqb r) Hi.out Hdl.out p1)
    go_wp2_with fail
    go_quiet (fail)
    go_wp2_with fail
    go_roundw
    case rel => exact ⟨k + 1, by omega, by go_num, E.out, K0.out.drewN _, he.drewN _⟩
    case measure => simp [intOf]; omega
  · have E := hU (show fin = (k : Int) by rw [F.out]; exact idxB_at Hdl.out p1 Hi.out)
    go_wp2_with fail
    go_quiet (fail)
    go_wp2_with fail
    go_ret
    exact ⟨ret_int E.out.symm, he.drewN _⟩
theorem recAt_one {l : List ReceiptD} {k : Nat} {d : ReceiptD} (hd : l[k]? = some d) : recAt l k = (receiptOk d && (idxB (fun x => x.eqb d) l == (k : Int))) := by rw [recAt, hd]
theorem l12ReceiptsOk_any (A : Option Addr) (c : Nat) (l : List ReceiptD) (w : World) (hr : SlF AnyB ReceiptD.cells 3 w A l c) (hok : ∀ d ∈ l, d.Ok) :
 Calls Tryz.prog 68 #[.slice A l.length c] w fun e w' => e = .returned (.bool (recsOk l)) ∧ Ext w w' := by
 have HR := hU hr
 have Hok := hU hok
 have hlm := hr.len
 unfold maxLen at hlm
 obtain ⟨fin, hfin⟩ : ∃ fin, fin = recsOk l := ⟨_, rfl⟩
 rw [← hfin]
 by_cases h5 : l.length ≤ 512
 case neg =>
  have E := hU (show fin = false by rw [hfin, recsOk, decide_eq_false h5]; rfl)
  have h6 : (512 : Int) < (l.length : Int) := by omega
  clear hfin
  go_enter Tryz.func68, Tryz.ntmps68
  go_wp2_with fail
  go_ret
  exact ⟨ret_bool E.out.symm, Below.refl w.heap.size w⟩
 have F := hU (show fin = allTo (recAt l) l.length by rw [hfin, recsOk, decide_eq_true h5]; rfl)
 clear hfin hok hr
 go_enter Tryz.func68, Tryz.ntmps68
 go_wp2_with fail
 go_loopw [3] (fun i wr => ∃ k : Nat, k ≤ l.length ∧ i = .int .i64 k ∧ allTo (recAt l) k = true ∧ Ext w wr) (fun i _ => l.length - (intOf i).toNat)
 case atStart => exact ⟨0, Nat.zero_le _, rfl, rfl, Below.refl w.heap.size w⟩
 case round =>
  obtain ⟨k, hk, rfl, hi, he⟩ := hrel
  have Hi := hU hi
  clear hi
  by_cases hlt : k < l.length
  case neg =>
   have E := hU (show fin = true by rw [F.out, show l.length = k by omega]; exact Hi.out)
   go_wp2_with fail
   go_ret
   exact ⟨ret_bool E.out.symm, he⟩
  obtain ⟨b, off, rfl, hb, hc⟩ := Reads.at_ (HR.out.ext he).reads (k := k) hlt
  obtain ⟨d, hd⟩ : ∃ d, d = l[k] := ⟨_, rfl⟩
  have hdl : l[k]? = some d := by rw [hd]; exact List.getElem?_eq_getElem hlt
  have hdo := Hok.out d (List.mem_of_getElem? hdl)
  obtain ⟨c0, c1, c2⟩ := rec_at hc hdl
  have RA := hU (recAt_one hdl)
  have HDO := hU hdo
  have AT := hU (fun (W : World) (hW : Ext w W) => l12At_any (some ⟨b, off, none⟩) c l d W (HR.out.ext hW).reads (by omega))
  clear hc hd hdl hdo
  cases p1 : receiptOk d
  · have E := hU (show fin = false by rw [F.out]; exact allTo_bad (k := k) (by rw [RA.out, p1]; rfl) _ hlt)
    go_wp2_with fail
    refine (specReceiptOk_any d _ HDO.out).mono ?_
    rintro e w2 ⟨rfl, h1⟩
    rw [p1]
    replace he := he.next h1
    go_wp2_with fail
    go_ret
    exact ⟨ret_bool E.out.symm, he⟩
  go_wp2_with fail
  refine (specReceiptOk_any d _ HDO.out).mono ?_
  rintro e w2 ⟨rfl, h1⟩
  rw [p1]
  have b0 := (h1.cell (p := ⟨b, off + k * 3, none⟩) hb).trans c0
  have b1 := (h1.cell (p := ⟨b, off + k * 3 + 1, none⟩) hb).trans c1
  have b2 := (h1.cell (p := ⟨b, off + k * 3 + 2, none⟩) hb).trans c2
  replace he := he.next h1
  clear h1 c0 c1 c2
  go_wp2_with fail
  refine (AT.out _ he).mono ?_
  rintro e w3 ⟨rfl, h1⟩
  replace he := he.next h1
  clear h1 b0 b1 b2
  obtain ⟨z, hz⟩ : ∃ z, z = idxB (fun x : ReceiptD => x.eqb d) l := ⟨_, rfl⟩
  rw [← hz] at RA
  rw [← hz]
  clear hz
  by_cases p2 : z = (k : Int)
  · have E := hU (show allTo (recAt l) (k + 1) = true from allTo_good Hi.out (by rw [RA.out, p1, beq_iff_eq.2 p2]; rfl))
    go_wp2_with fail
    go_roundw
    case rel => exact ⟨k + 1, by omega, by go_num, E.out, he⟩
    case measure => simp [intOf]; omega
  · have E := hU (show fin = false by rw [F.out]; exact allTo_bad (k := k) (by rw [RA.out, p1, beq_false_of_ne p2]; rfl) _ hlt)
    go_wp2_with fail
    go_ret
    exact ⟨ret_bool E.out.symm, he⟩
set_option maxHeartbeats 4000000
theorem headText_le (n : Int) (h : HeadD) : (headText n h).size ≤ 1000 := by
 cases k : headOk n h
 · rw [headText, k]; exact Nat.zero_le _
 · have := (headText_fits k).2; omega
theorem file_le (b : BrokerD) (f : Nat) : ∀ t ∈ fileT b f, t.size ≤ 1000 := by
 intro t ht
 unfold fileT at ht
 rw [List.mem_append, List.mem_append] at ht
 rcases ht with (ht | ht) | ht
 · split at ht
   · obtain ⟨e, he, rfl⟩ := List.mem_map.1 ht; exact leafText_size e
   · simp at ht
 · split at ht
   · obtain ⟨e, he, rfl⟩ := List.mem_map.1 ht; exact headText_le _ e
   · simp at ht
 · split at ht
   · obtain ⟨e, he, rfl⟩ := List.mem_map.1 ht; exact receiptText_size e
   · simp at ht
theorem file_many {b : BrokerD} (h : BSz b) (f : Nat) : (fileT b f).length ≤ 1048576 := by
 have h0 := h.e; have h1 := h.r; have h2 := h.h
 unfold fileT
 by_cases f0 : f = 0
 · subst f0; simp [textsE]; omega
 by_cases f1 : f = 1
 · subst f1; simp [textsH]; omega
 by_cases f2 : f = 2
 · subst f2; simp [textsR]; omega
 simp [f0, f1, f2]
theorem writeBehind_any (b : BrokerD) (f : Nat) (hf : f < 3) (t : ByteArray) (g : Nat) (A0 : Option Addr) (a0 : Nat) (A1 : Option Addr) (a1 : Nat) (A2 : Option Addr) (a2 : Nat) (A3 : Option Addr) (a3 : Nat) (A4 : Option Addr) (a4 : Nat) (w : World) (hb : Blk w g 59 #[.int .i64 b.width, .slice A0 b.log.entries.length a0, .slice A1 b.receipts.length a1, .slice A2 b.heads.length a2, .int .i64 b.sealed.leaves.size, .slice A3 b.sealed.leaves.peaks.length a3, .int .i64 b.sealed.taken.size, .slice A4 b.sealed.taken.peaks.length a4, .int .i64 b.sealed.head.number, .int .i64 b.sealed.head.size, .string b.sealed.head.root, .int .i64 b.sealed.head.taken, .string b.sealed.head.takenRoot]) (s : BArg AnyB w b A0 a0 A1 a1 A2 a2 A3 a3 A4 a4) (hk : TxOk b) (ht : t.size ≤ maxLen) :
 Calls Tryz.prog 158 #[.pointer (some ⟨g, 0, none⟩), .int .i64 (f : Int), .string t] w fun e w' => ∃ v, e = .returned v ∧ w'.ownsRow w.heap.size 112 3 v 1 (writeW b f t).cells ∧ Ext w w' := by
 have C0 := hU (texts_any b g A0 a0 A1 a1 A2 a2 A3 a3 A4 a4 w hb s hk)
 have HT := hU ht
 obtain ⟨T, hT⟩ : ∃ T, T = fileT b f := ⟨_, rfl⟩
 have HTs := hU (show ∀ x ∈ T, x.size ≤ 1000 from by rw [hT]; exact file_le b f)
 have hTl : T.length ≤ 1048576 := by rw [hT]; exact file_many hk.n f
 have FX := hU hT
 clear hb s hk ht hT
 go_enter Tryz.func158, Tryz.ntmps158
 go_wp2_with fail
 refine C0.out.mono ?_
 rintro e w1 ⟨V0, c0, V1, c1, V2, c2, rfl, r0, r1, r2, he⟩
 clear C0
 obtain ⟨V, cv, hix, hr⟩ : ∃ V cv, (∀ W : World, (Instr.index 127 (.agg #[.slice V0 (textsE b).length c0, .slice V1 (textsH b).length c1, .slice V2 (textsR b).length c2]) (.int .i64 (f : Int))).run Tryz.prog W = .ok (.slice V T.length cv) W) ∧ RowT w.heap.size w1 (.slice V T.length cv) T := by
  rw [FX.out]
  obtain rfl | rfl | rfl : f = 0 ∨ f = 1 ∨ f = 2 := by omega
  · rw [fileT_0]; exact ⟨V0, c0, fun _ => by kernel_rfl, r0⟩
  · rw [fileT_1]; exact ⟨V1, c1, fun _ => by kernel_rfl, r1⟩
  · rw [fileT_2]; exact ⟨V2, c2, fun _ => by kernel_rfl, r2⟩
 have HR := hU (slf_at hr).reads
 have HE := hU he
 clear r0 r1 r2 hr he
 go_wp2_with fail
 go_loopw [7, 17] (fun v i wr => ∃ k : Nat, k ≤ T.length ∧ i = .int .i64 k ∧ v = .int .i64 ((offT (T.take k) : Nat) : Int) ∧ Ext w1 wr) (fun _ i _ => T.length - (intOf i).toNat)
 case atStart => exact ⟨0, Nat.zero_le _, rfl, rfl, Below.refl _ _⟩
 case round =>
  clear hix
  obtain ⟨k, hk, rfl, rfl, he⟩ := hrel
  by_cases hlt : k < T.length
  case neg =>
   obtain rfl : k = T.length := by omega
   rw [List.take_length]
   obtain ⟨q, hq⟩ : ∃ q, q = offT T := ⟨_, rfl⟩
   rw [← hq]
   have HQ := hU hq
   clear hq hlt hk
   replace he := HE.out.next he
   clear HE
   go_wp2_with fail
   refine (implFrame_any t _ HT.out).mono ?_
   rintro e w2 ⟨rfl, h2⟩
   replace he := he.next h2
   clear h2
   have hws := he.size
   obtain ⟨F, hF⟩ : ∃ F, F = frameOut t := ⟨_, rfl⟩
   rw [← hF]
   have HF := hU hF
   clear hF
   have Z := hU ((Blk.new w2 112 #[.int .i64 (f : Int), .int .i64 (q : Int), .string F]).ownsRow (xs := [.int .i64 (f : Int), .int .i64 (q : Int), .string F]) 1 3 w.heap.size hws rfl (by unfold maxLen; omega))
   have X := hU (he.new (.cells #[.int .i64 (f : Int), .int .i64 (q : Int), .string F] 112))
   clear he hws
   go_wp2_with fail
   go_ret
   refine ⟨_, rfl, ?_, X.out⟩
   have E : (writeW b f t).cells = [.int .i64 (f : Int), .int .i64 (q : Int), .string F] := by rw [HQ.out, HF.out, FX.out]; rfl
   rw [E]
   exact Z.out
  obtain ⟨x, hx⟩ : ∃ x, T[k]? = some x := ⟨T[k], List.getElem?_eq_getElem hlt⟩
  obtain ⟨b_, off, rfl, hb_, c0⟩ := texts_cell (HR.out.ext he) hx
  have hxs := HTs.out x (List.mem_of_getElem? hx)
  have hq2 := offT_take hx
  have hq1 := offT_le (l := T.take k) (m := 1000) (fun y hy => HTs.out y (List.mem_of_mem_take hy))
  rw [List.length_take, Nat.min_eq_left hk] at hq1
  obtain ⟨q, hq⟩ : ∃ q, q = offT (T.take k) := ⟨_, rfl⟩
  rw [← hq] at hq1 hq2
  rw [← hq]
  have hq3 : q ≤ 1100000000 := by omega
  have a1 : IntKind.i64.wrap (6 + (x.size : Int)) = 6 + (x.size : Int) := IntWalk.i64_in _ (by omega)
  have a2 : IntKind.i64.wrap ((q : Int) + (6 + (x.size : Int))) = ((offT (T.take (k + 1)) : Nat) : Int) := by rw [IntWalk.i64_in _ (by omega), hq2]; omega
  clear hx hq2 hq1 hq
  go_wp2_with fail
  go_roundw
  case rel => exact ⟨k + 1, by omega, by go_num, rfl, he⟩
  case measure => simp [intOf]; omega
theorem leafClosure_any (d : EntryD) (t : ByteArray) (ix : Int) (g1 g2 : Nat) (w : World) (hg1 : g1 < w.heap.size) (hg2 : g2 < w.heap.size) (h1 : w.cell? ⟨g1, 0, none⟩ = some (.string t)) (h2 : w.cell? ⟨g2, 0, none⟩ = some (.int .i64 ix)) :
 Calls Tryz.prog 177 #[.agg #[.string d.topic, .int .i64 d.index, .int .i64 d.time, .string d.key, .string d.body], .pointer (some ⟨g1, 0, none⟩), .pointer (some ⟨g2, 0, none⟩)] w fun e w' => e = .returned (.bool (ofTI t ix d)) ∧ Ext w w' := by
 obtain ⟨r0, m0⟩ := (Blk.new w 46 #[.string d.topic, .int .i64 d.index, .int .i64 d.time, .string d.key, .string d.body]).rules
 have He := hU (Ext.new (Below.refl w.heap.size w) (.cells #[.string d.topic, .int .i64 d.index, .int .i64 d.time, .string d.key, .string d.body] 46))
 have k1 := (He.out.cell (p := ⟨g1, 0, none⟩) hg1).trans h1
 have k2 := (He.out.cell (p := ⟨g2, 0, none⟩) hg2).trans h2
 obtain ⟨fin, hfin⟩ : ∃ fin, fin = ofTI t ix d := ⟨_, rfl⟩
 rw [← hfin]
 cases p1 : (d.topic.toList == t.toList)
 · have E := hU (show fin = false by rw [hfin, ofTI, p1]; rfl)
   clear hfin
   go_enter Tryz.func177, Tryz.ntmps177
   go_wp2_with fail
   go_ret
   exact ⟨ret_bool E.out.symm, He.out⟩
 · have E := hU (show fin = (d.index == ix) by rw [hfin, ofTI, p1]; rfl)
   clear hfin
   go_enter Tryz.func177, Tryz.ntmps177
   go_wp2_with fail
   go_ret
   exact ⟨ret_bool E.out.symm, He.out⟩
theorem indexEntry_any (A : Option Addr) (c : Nat) (l : List EntryD) (t : ByteArray) (ix : Int) (g1 g2 : Nat) (w : World) (hr : ReadsL w w.heap.size EntryD.cells 5 A l) (hl : l.length ≤ 1048576) (hg1 : g1 < w.heap.size) (hg2 : g2 < w.heap.size) (h1 : w.cell? ⟨g1, 0, none⟩ = some (.string t)) (h2 : w.cell? ⟨g2, 0, none⟩ = some (.int .i64 ix)) :
 Calls Tryz.prog 176 #[.slice A l.length c, .func (.func 177) #[] #[.pointer (some ⟨g1, 0, none⟩), .pointer (some ⟨g2, 0, none⟩)]] w fun e w' => e = .returned (.int .i64 (idxB (ofTI t ix) l)) ∧ Ext w w' := by
 have HR := hU hr
 have H1 := hU h1; have H2 := hU h2
 obtain ⟨fin, hfin⟩ : ∃ fin, fin = idxB (ofTI t ix) l := ⟨_, rfl⟩
 rw [← hfin]
 have F := hU hfin
 clear hfin hr h1 h2
 go_enter Tryz.func176, Tryz.ntmps176
 go_wp2_with fail
 go_loopw [8] (fun i wr => ∃ k : Nat, k ≤ l.length ∧ i = .int .i64 k ∧ (∀ x ∈ l.take k, ofTI t ix x = false) ∧ Ext w wr) (fun i _ => l.length - (intOf i).toNat)
 case atStart => exact ⟨0, Nat.zero_le _, rfl, by simp, Below.refl w.heap.size w⟩
 case round =>
  obtain ⟨k, hk, rfl, hi, he⟩ := hrel
  have Hi := hU hi
  clear hi
  by_cases hlt : k < l.length
  case neg =>
   have E := hU (show fin = -1 by rw [F.out]; exact idxB_none (by have := Hi.out; rwa [show k = l.length by omega, List.take_length] at this))
   go_wp2_with fail
   go_ret
   exact ⟨ret_int E.out.symm, he⟩
  obtain ⟨b, off, rfl, hb, hc⟩ := Reads.at_ (HR.out.ext he) (k := k) hlt
  obtain ⟨d, hd⟩ : ∃ d, d = l[k] := ⟨_, rfl⟩
  have hdl : l[k]? = some d := by rw [hd]; exact List.getElem?_eq_getElem hlt
  obtain ⟨c0, c1, c2, c3, c4⟩ := entry_at hc hdl
  have Hdl := hU hdl
  have CC := hU (fun W => leafClosure_any d t ix g1 g2 W)
  have hes := he.size
  have J1 : wr.cell? ⟨g1, 0, none⟩ = some (.string t) := (he.cell (p := ⟨g1, 0, none⟩) hg1).trans H1.out
  have J2 : wr.cell? ⟨g2, 0, none⟩ = some (.int .i64 ix) := (he.cell (p := ⟨g2, 0, none⟩) hg2).trans H2.out
  have K := hU (CC.out wr (by omega) (by omega) J1 J2)
  have K2 : Hid (Calls Tryz.prog 177 #[.agg #[.string d.topic, .int .i64 d.index, .int .i64 d.time, .string d.key, .string d.body], .pointer (some ⟨g1, 0, none⟩), .pointer (some ⟨g2, 0, none⟩)] wr.drew fun e w' => e = .returned (.bool (ofTI t ix d)) ∧ Ext wr.drew w') := hU (CC.out wr.drew (by exact Nat.lt_of_lt_of_le hg1 hes) (by exact Nat.lt_of_lt_of_le hg2 hes) J1 J2)
  clear hc hd hdl J1 J2 CC
  have TN := hU (fun h => take_none Hi.out Hdl.out h)
  go_wp2_with fail
  refine K.out.mono ?_
  rintro e w2 ⟨rfl, h1⟩
  have he2 := he.next h1
  clear he h1 K K2 c0 c1 c2 c3 c4
  cases p1 : ofTI t ix d
  · have E := hU (TN.out p1)
    go_wp2_with fail
    go_roundw
    case rel => exact ⟨k + 1, by omega, by go_num, E.out, he2⟩
    case measure => simp [intOf]; omega
  · have E := hU (show fin = (k : Int) by rw [F.out]; exact idxB_at Hdl.out p1 Hi.out)
    go_wp2_with fail
    go_ret
    exact ⟨ret_int E.out.symm, he2⟩
theorem leafOf_any (A : Option Addr) (c : Nat) (l : List EntryD) (t : ByteArray) (ix : Int) (w : World) (hr : ReadsL w w.heap.size EntryD.cells 5 A l) (hl : l.length ≤ 1048576) :
 Calls Tryz.prog 110 #[.agg #[.slice A l.length c], .string t, .int .i64 ix] w fun e w' => e = .returned (.int .i64 (idxB (ofTI t ix) l)) ∧ Ext w w' := by
 have hmf : ∀ (fn : Fn) (first cap : Array Value) (w : World), (Instr.makeFunc fn first cap).run Tryz.prog w = .ok (.func fn first cap) w := fun _ _ _ _ => rfl
 have K0 := Blk.new w 51 #[.slice A l.length c]
 have E1 := Ext.new (Below.refl w.heap.size w) (.cells #[.slice A l.length c] 51)
 obtain ⟨w1, hw1⟩ : ∃ w1, w1 = w.alloc (.cells #[.slice A l.length c] 51) := ⟨_, rfl⟩
 have hs1 : w1.heap.size = w.heap.size + 1 := by rw [hw1]; simp
 rw [← hw1] at K0 E1
 have K1 := Blk.new w1 9 #[.string t]
 have E2 := E1.new (.cells #[.string t] 9)
 have K01 := K0.alloc (.cells #[.string t] 9)
 obtain ⟨w2, hw2⟩ : ∃ w2, w2 = w1.alloc (.cells #[.string t] 9) := ⟨_, rfl⟩
 have hs2 : w2.heap.size = w1.heap.size + 1 := by rw [hw2]; simp
 rw [← hw2] at K1 E2 K01
 have K2 := Blk.new w2 3 #[.int .i64 ix]
 have E3 := E2.new (.cells #[.int .i64 ix] 3)
 have K012 := K01.alloc (.cells #[.int .i64 ix] 3)
 have K12 := K1.alloc (.cells #[.int .i64 ix] 3)
 obtain ⟨r0, m0⟩ := K012.rules
 rw [hs1] at K12
 have g1 := K12.lt
 have g2 := K2.lt
 have s1 : (w2.alloc (.cells #[.int .i64 ix] 3)).cell? ⟨w.heap.size + 1, 0, none⟩ = some (.string t) := K12.cell 0
 rw [hs2, hs1] at K2 g2
 have s2 : (w2.alloc (.cells #[.int .i64 ix] 3)).cell? ⟨w.heap.size + 1 + 1, 0, none⟩ = some (.int .i64 ix) := K2.cell 0
 have C := hU (indexEntry_any A c l t ix (w.heap.size + 1) (w.heap.size + 1 + 1) _ (hr.ext E3) hl g1 g2 s1 s2)
 have E3 := hU E3
 subst hw2
 subst hw1
 clear K0 E1 E2 K01 K1 K2 K012 K12 g1 g2 s1 s2 hs1 hs2
 go_enter Tryz.func110, Tryz.ntmps110
 go_wp2_with fail
 refine C.out.mono ?_
 rintro e w4 ⟨rfl, h4⟩
 go_wp2_with fail
 go_ret
 exact ⟨rfl, E3.out.next h4⟩
theorem last_any (g : Nat) (A : Option Addr) (c : Nat) (l : List HeadD) (w : World) (hc3 : w.cell? ⟨g, 3, none⟩ = some (.slice A l.length c)) (hg : g < w.heap.size) (hr : ReadsL w w.heap.size HeadD.cells 5 A l) (h0 : 0 < l.length) (hl : l.length ≤ 1048576) :
 Calls Tryz.prog 147 #[.pointer (some ⟨g, 0, none⟩)] w fun e w' => e = .returned (.agg #[.int .i64 (lastH l).number, .int .i64 (lastH l).size, .string (lastH l).root, .int .i64 (lastH l).taken, .string (lastH l).takenRoot]) ∧ Ext w w' := by
 obtain ⟨h, hh⟩ : ∃ h, h = lastH l := ⟨_, rfl⟩
 have hl1 := last_at h0
 rw [← hh] at hl1
 rw [← hh]
 obtain ⟨b, off, rfl, hb, hc⟩ := Reads.at_ hr (k := l.length - 1) (by omega)
 obtain ⟨k, hk⟩ : ∃ k, k = l.length - 1 := ⟨_, rfl⟩
 obtain ⟨L, hL⟩ : ∃ L, L = l.length := ⟨_, rfl⟩
 have c0 := hc 0 _ (flat_at _ 5 HeadD.cells_length l _ 0 h hl1 (by omega))
 have c1 := hc 1 _ (flat_at _ 5 HeadD.cells_length l _ 1 h hl1 (by omega))
 have c2 := hc 2 _ (flat_at _ 5 HeadD.cells_length l _ 2 h hl1 (by omega))
 have c3 := hc 3 _ (flat_at _ 5 HeadD.cells_length l _ 3 h hl1 (by omega))
 have c4 := hc 4 _ (flat_at _ 5 HeadD.cells_length l _ 4 h hl1 (by omega))
 rw [Nat.add_zero] at c0
 rw [← hk] at c0 c1 c2 c3 c4
 rw [← hL] at hc3 h0 hl hk
 have e1 : (L : Int) - 1 = (k : Int) := by omega
 have e2 : IntKind.i64.wrap (k : Int) = (k : Int) := IntWalk.i64_in _ (by omega)
 have hkL : k < L := by omega
 clear hc hl1 hk hL hr hh h0
 have K0 := Blk.new w 55 #[.int .i64 0, .int .i64 0, .string ⟨#[]⟩, .int .i64 0, .string ⟨#[]⟩]
 have E1 := Ext.new (Below.refl w.heap.size w) (.cells #[.int .i64 0, .int .i64 0, .string ⟨#[]⟩, .int .i64 0, .string ⟨#[]⟩] 55)
 obtain ⟨q, hq⟩ : ∃ q, q = w.heap.size := ⟨_, rfl⟩
 have x3 := (E1.cell (p := ⟨g, 3, none⟩) hg).trans hc3
 have x0 := (E1.cell (p := ⟨b, off + k * 5, none⟩) hb).trans c0
 have x1 := (E1.cell (p := ⟨b, off + k * 5 + 1, none⟩) hb).trans c1
 have x2 := (E1.cell (p := ⟨b, off + k * 5 + 2, none⟩) hb).trans c2
 have x4 := (E1.cell (p := ⟨b, off + k * 5 + 3, none⟩) hb).trans c3
 have x5 := (E1.cell (p := ⟨b, off + k * 5 + 4, none⟩) hb).trans c4
 have Hq := hU hq
 clear hq hc3 c0 c1 c2 c3 c4
 go_enter Tryz.func147, Tryz.ntmps147
 go_wp2_with fail
 rw [← Hq.out]
 have T := hU (show Blk (w.alloc (.cells #[.int .i64 0, .int .i64 0, .string ⟨#[]⟩, .int .i64 0, .string ⟨#[]⟩] 55)) q 55 #[.int .i64 0, .int .i64 0, .string ⟨#[]⟩, .int .i64 0, .string ⟨#[]⟩] by rw [Hq.out]; exact K0)
 clear K0
 generalize w.alloc (.cells #[.int .i64 0, .int .i64 0, .string ⟨#[]⟩, .int .i64 0, .string ⟨#[]⟩] 55) = w1 at *
 go_still_tail 12, (by kernel_rfl)
 change wpList _ _ _ _ _ w1.drew
 generalize hd : w1.drew = w2
 have T2 : Hid (Blk w2 q 55 #[.int .i64 0, .int .i64 0, .string ⟨#[]⟩, .int .i64 0, .string ⟨#[]⟩]) := hU (by rw [← hd]; exact T.out)
 have E2 : Ext w w2 := by rw [← hd]; exact E1.drew
 have hqw : w.heap.size ≤ q := by have := Hq.out; omega
 clear hd E1 T x3 x0 x1 x2 x4 x5
 have B2 := hU (T2.out.put 0 [.int .i64 h.number, .int .i64 h.size, .string h.root, .int .i64 h.taken, .string h.takenRoot] #[.int .i64 h.number, .int .i64 h.size, .string h.root, .int .i64 h.taken, .string h.takenRoot] (by simp) rfl)
 have E3 := hU (ext_setCells (W := w) (g := q) hqw [.int .i64 h.number, .int .i64 h.size, .string h.root, .int .i64 h.taken, .string h.takenRoot] 0 _ E2)
 obtain ⟨zc, zf⟩ := T2.out.rules
 go_wp2_with fail
 exact ret_row rfl rfl B2.out Tryz.underlying55 rfl (by kernel_rfl) rfl ⟨rfl, E3.out⟩
theorem below_of {X : Nat → Prop} {K : Nat} {w w1 w2 : World} (hx : Ext w w1) (hf : Frm X w1 w2) (hX : ∀ b, X b → K ≤ b) (hK : K ≤ w.heap.size) : Below K w w2 :=
 ⟨hf.os.trans hx.os, hf.tape.trans hx.tape, hf.output.trans hx.output, Nat.le_trans hx.size hf.size, fun k hk => (hf.block k (by have := hx.size; omega) (fun h => by have := hX k h; omega)).trans (hx.block k (by omega))⟩
theorem row_put {K G T e s n : Nat} {w : World} {v : Value} {xs : List Value} {cs : Array Value} (h : w.ownsRow K e s v n xs) (hb : Blk w G T cs) (ht : T ≠ e) (vs : List Value) (o : Nat) : (w.setCells G o vs).ownsRow K e s v n xs :=
 (Frm.setCells (Frm.refl (fun b => b = G) w) (g := G) (fun _ => rfl) vs o).own h (fun y hy => own_ne h hb ht y hy)
def TkEnd (b : BrokerD) (r : ReceiptD) (K g : Nat) (ve vh v1 v2 : Value) (w : World) (e : Ending) (w' : World) : Prop :=
 ∃ vw, e = .returned (.tuple #[vw, .int .i64 (tkCode b r : Int)]) ∧ ((tkCode b r ≠ 0 ∧ Ext w w') ∨
  (tkCode b r = 0 ∧ ∃ vr, Blk w' g 59 (brkCs (tkB b r) ve vr vh v1 v2).toArray ∧ BRows K w' (tkB b r) ve vr vh v1 v2 ∧ w'.ownsRow K 112 3 vw 1 (writeW b 2 (receiptText r)).cells ∧ Below K w w'))
theorem TkEnd.no {b : BrokerD} {r : ReceiptD} {K g : Nat} {ve vh v1 v2 vw : Value} {w w' : World} {e : Ending} {k : Nat} (h : tkCode b r = k) (h0 : k ≠ 0) (he : e = .returned (.tuple #[vw, .int .i64 (k : Int)])) (hx : Ext w w') : TkEnd b r K g ve vh v1 v2 w e w' :=
 ⟨vw, by rw [h]; exact he, .inl ⟨by omega, hx⟩⟩
end Go.Proofs.YtlgdghpnfclgpaaGreat

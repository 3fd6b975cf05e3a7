/-
  Two drawn right entries have the same text just when they are the same; no entry has the text of a receipt. No condition.
-/
import Derived.Test.YtichegndafnjeaaRows
import Derived.Test.YtichegndafnjeaaFacts
import Derived.Test.YtichegndafnjeaaLeafOne0
import Derived.Test.YtichegndafnjeaaTwin
import Derived.Test.YtichegndafnjeaaBig
namespace Go.Proofs.Ytichegndafnjeaa
open Go.RowKit Go.WideShapes Go.ChangeAt
set_option linter.unusedVariables false

theorem rlRes_no (d : EntryD) : rlRes false d = .returned (.tuple #[.agg #[.string ⟨#[]⟩, .int .i64 0, .int .i64 0, .string ⟨#[]⟩, .string ⟨#[]⟩], .bool false]) := rfl
theorem rrRes_no (d : ReceiptD) : rrRes false d = .returned (.tuple #[.agg #[.string ⟨#[]⟩, .string ⟨#[]⟩, .int .i64 0], .bool false]) := rfl
theorem leaf_same {a b : EntryD} (ha : entryOk a = true) (hb : entryOk b = true) : ((leafText a).toList == (leafText b).toList) = a.eqb b := by
  cases h : a.eqb b
  · rw [bytes_beq, decide_eq_false_iff_not]
    intro he
    have := leaf_one ha hb he
    rw [(EntryD.eqb_iff a b).2 this] at h; cases h
  · rw [(EntryD.eqb_iff a b).1 h, bytes_beq, decide_eq_true_eq]
set_option maxHeartbeats 4000000 in
set_option maxRecDepth 100000 in
theorem lawLeafOne_walk (A : Option Addr) (c : Nat) (l : List Int) (w : World) (hlen : l.length ≤ maxLen) (hin : ∀ x ∈ l, ByteIn x) (hr : ReadsL w w.heap.size byteC 1 A l) :
    Calls Try.prog 4 #[.slice A l.length c] w fun e w' => e = .returned (.bool true) ∧ Ext w w' := by
  by_cases hb : 1048576 < l.length
  · have hd : decide (1048576 < l.length) = true := decide_eq_true hb
    go_enter Try.func4, Try.ntmps4
    go_wp2_with (go_at_call 7; refine (big_any _ _ _ _ hlen).mono ?_; rintro e w' ⟨rfl, rfl⟩; rw [hd])
    go_ret
    exact ⟨rfl, Below.refl _ _⟩
  have hd : decide (1048576 < l.length) = false := decide_eq_false hb
  have Hr := Lib.hid hr; clear hr
  have Hin := Lib.hid hin; clear hin
  go_enter Try.func4, Try.ntmps4
  go_wp2_with (go_at_call 7; refine (big_any _ _ _ _ hlen).mono ?_; rintro e w' ⟨rfl, rfl⟩; rw [hd])
  refine (deed_any A c l _ hlen Hin.out Hr.out).mono ?_
  rintro e w1 ⟨he, x, d, r, sl, hdo, hdk, hro, hrk, rfl⟩
  have HE := Lib.hid he; have HDO := Lib.hid hdo; have HDK := Lib.hid hdk; have HRO := Lib.hid hro; have HRK := Lib.hid hrk
  have hw1 := HE.out.size
  clear he hdo hdk hro hrk
  go_wp2_with fail
  have b0 := (Blk.new w1 44 #[.string d.topic, .int .i64 d.index, .int .i64 d.time, .string d.key, .string d.body]).alloc (.cells #[.string r.reader, .string r.topic, .int .i64 r.index] 46)
  have b1 := Blk.new (w1.alloc (.cells #[.string d.topic, .int .i64 d.index, .int .i64 d.time, .string d.key, .string d.body] 44)) 46 #[.string r.reader, .string r.topic, .int .i64 r.index]
  rw [World.size_alloc] at b1
  have B0 := Lib.hid b0; have B1 := Lib.hid b1; clear b0 b1
  replace HE := Lib.hid ((HE.out.new (.cells #[.string d.topic, .int .i64 d.index, .int .i64 d.time, .string d.key, .string d.body] 44)).new (.cells #[.string r.reader, .string r.topic, .int .i64 r.index] 46))
  obtain ⟨g, hg⟩ : ∃ g, g = w1.heap.size := ⟨_, rfl⟩
  have hg0 : w.heap.size ≤ g := by omega
  rw [← hg] at B0 B1
  rw [← hg]
  clear hg
  generalize (w1.alloc (.cells #[.string d.topic, .int .i64 d.index, .int .i64 d.time, .string d.key, .string d.body] 44)).alloc (.cells #[.string r.reader, .string r.topic, .int .i64 r.index] 46) = w2 at *
  have HR2 := Lib.hid (ReadsL.ext Hr.out HE.out); clear Hr
  refine (DrawTwin_any A c l _ hlen Hin.out HR2.out).mono ?_
  rintro e w3 ⟨h1, n, V, cv, L, k, hk, bd, hn1, hn4, hL, hLR, hLD, hbd, hs, rfl⟩
  replace HE := Lib.hid (Ext.next HE.out h1); replace B0 := Lib.hid (B0.out.ext h1); replace B1 := Lib.hid (B1.out.ext h1)
  have h23 := h1.size
  have HS := Lib.hid hs
  obtain ⟨f, hf⟩ : ∃ f, f = L[k] := ⟨_, rfl⟩
  have hfl : L[k]? = some f := by rw [hf]; exact List.getElem?_eq_getElem hk
  obtain ⟨hfo, hfk, hfi⟩ := hLR k f hfl
  have HF := Lib.hid (And.intro hfo hfk)
  have HB := Lib.hid (body_ok hfo hfk hbd)
  have HFL := Lib.hid hfl
  rw [← hf]
  clear h1 hs hLR hLD hfo hfk hfi hf hfl
  have hgp0 := B1.out.lt
  go_upto_if 40 with fail
  have b2 := Blk.new w3 44 #[.string f.topic, .int .i64 f.index, .int .i64 f.time, .string f.key, .string bd]
  replace HE := Lib.hid (HE.out.new (.cells #[.string f.topic, .int .i64 f.index, .int .i64 f.time, .string f.key, .string bd] 44)); replace B0 := Lib.hid (B0.out.alloc (.cells #[.string f.topic, .int .i64 f.index, .int .i64 f.time, .string f.key, .string bd] 44)); replace B1 := Lib.hid (B1.out.alloc (.cells #[.string f.topic, .int .i64 f.index, .int .i64 f.time, .string f.key, .string bd] 44))
  have HS2 := Lib.hid (HS.out.ext (Ext.new (Below.refl w3.heap.size w3) (.cells #[.string f.topic, .int .i64 f.index, .int .i64 f.time, .string f.key, .string bd] 44)))
  obtain ⟨p, hp⟩ : ∃ p, p = w3.heap.size := ⟨_, rfl⟩
  have B2 := Lib.hid b2; clear b2 HS
  rw [← hp] at B2 h23 hgp0
  rw [← hp]
  clear hp
  generalize w3.alloc (.cells #[.string f.topic, .int .i64 f.index, .int .i64 f.time, .string f.key, .string bd] 44) = w4 at *
  have hgp : g + 1 < p := hgp0
  go_cut [2] (fun y wx => y = .bool false ∧ ∃ E : EntryD, entryOk E = true ∧ E.Ok ∧ Blk wx g 44 #[.string E.topic, .int .i64 E.index, .int .i64 E.time, .string E.key, .string E.body] ∧ Blk wx (g + 1) 46 #[.string r.reader, .string r.topic, .int .i64 r.index] ∧ Blk wx p 44 #[.string f.topic, .int .i64 f.index, .int .i64 f.time, .string f.key, .string bd] ∧ Ext w wx)
  case first =>
    by_cases hp : (l.length : Int) % 2 = 0
    case neg =>
      have d1 : decide ((l.length : Int) % 2 = 0) = false := decide_eq_false hp
      have d2 : ((l.length : Int) % 2 == 0) = false := by rw [beq_eq_false_iff_ne]; exact hp
      go_wp2_with fail
      go_meet
      case rel => exact ⟨rfl, d, HDO.out, HDK.out, B0.out, B1.out, B2.out, HE.out⟩
    have d1 : decide ((l.length : Int) % 2 = 0) = true := decide_eq_true hp
    have d2 : ((l.length : Int) % 2 == 0) = true := by rw [beq_iff_eq]; exact hp
    obtain ⟨b, off, rfl, hb2, hc⟩ := Reads.at_ HS2.out.reads (k := k) hk
    obtain ⟨e0, e1, e2, e3, e4⟩ := entry_at hc HFL.out
    have hw : IntKind.i64.wrap (k : Int) = (k : Int) := IntWalk.i64_in _ (by have := hL; omega)
    obtain ⟨c0, f0⟩ := B0.out.rules
    clear hc hb2
    go_wp2_with fail
    go_meet
    case rel => exact ⟨rfl, f, HF.out.1, HF.out.2, B0.out.put 0 [.string f.topic, .int .i64 f.index, .int .i64 f.time, .string f.key, .string f.body] #[.string f.topic, .int .i64 f.index, .int .i64 f.time, .string f.key, .string f.body] (by simp) rfl, B1.out.farCells (g' := g) (by omega) [.string f.topic, .int .i64 f.index, .int .i64 f.time, .string f.key, .string f.body] 0, B2.out.farCells (g' := g) (by omega) [.string f.topic, .int .i64 f.index, .int .i64 f.time, .string f.key, .string f.body] 0, ext_setCells hg0 [.string f.topic, .int .i64 f.index, .int .i64 f.time, .string f.key, .string f.body] 0 _ HE.out⟩
  case rest =>
  clear B0 B1 B2 HE HS2
  obtain ⟨rfl, E, hEo, hEk, b0, b1, b2, he⟩ := hcut
  have HEO := Lib.hid hEo; have HEK := Lib.hid hEk; clear hEo hEk
  obtain ⟨c0, f0⟩ := b0.rules
  go_wp2_with fail
  clear c0 f0
  refine (LeafText_any E _ HEK.out).mono ?_
  rintro e w5 ⟨rfl, h1⟩
  replace he := he.next h1; replace b0 := b0.ext h1; replace b1 := b1.ext h1; replace b2 := b2.ext h1; clear h1
  rw [HEO.out]
  obtain ⟨c2, f2⟩ := b2.rules
  go_wp2_with fail
  clear c2 f2
  refine (LeafText_any ({ f with body := bd } : EntryD) _ HB.out.2).mono ?_
  rintro e w6 ⟨rfl, h1⟩
  replace he := he.next h1; replace b0 := b0.ext h1; replace b1 := b1.ext h1; replace b2 := b2.ext h1; clear h1
  rw [HB.out.1]
  obtain ⟨c1, f1⟩ := b1.rules
  go_wp2_with fail
  clear c1 f1
  refine (ReceiptText_any r _ HRK.out).mono ?_
  rintro e w7 ⟨rfl, h1⟩
  replace he := he.next h1; replace b0 := b0.ext h1; replace b1 := b1.ext h1; replace b2 := b2.ext h1; clear h1
  rw [HRO.out]
  have hms := receiptText_small r HRO.out
  have hls := leafText_small E HEO.out
  have N1 := Lib.hid (receipt_no_leaf HRO.out)
  have N2 := Lib.hid (leaf_no_receipt HEO.out)
  have N3 := Lib.hid (leaf_same HEO.out HB.out.1)
  generalize receiptText r = U at *
  generalize leafText E = S at *
  generalize leafText ({ f with body := bd } : EntryD) = T at *
  go_wp2_with fail
  refine (ReadLeaf_any U _ hms).mono ?_
  rintro e w8 ⟨he1, h1⟩
  rw [N1.out, rlRes_no] at he1
  subst he1
  replace he := he.next h1; replace b0 := b0.ext h1; replace b1 := b1.ext h1; replace b2 := b2.ext h1; clear h1
  go_upto_region 11 with fail
  replace b0 := b0.alloc (.cells #[.string ⟨#[]⟩, .int .i64 0, .int .i64 0, .string ⟨#[]⟩, .string ⟨#[]⟩] 44); replace b2 := b2.alloc (.cells #[.string ⟨#[]⟩, .int .i64 0, .int .i64 0, .string ⟨#[]⟩, .string ⟨#[]⟩] 44); replace he := he.new (.cells #[.string ⟨#[]⟩, .int .i64 0, .int .i64 0, .string ⟨#[]⟩, .string ⟨#[]⟩] 44)
  generalize w8.alloc (.cells #[.string ⟨#[]⟩, .int .i64 0, .int .i64 0, .string ⟨#[]⟩, .string ⟨#[]⟩] 44) = w9 at *
  go_wp2_with fail
  refine (ReadReceipt_any S _ hls).mono ?_
  rintro e w10 ⟨he1, h1⟩
  rw [N2.out, rrRes_no] at he1
  subst he1
  replace he := he.next h1; replace b0 := b0.ext h1; replace b2 := b2.ext h1; clear h1
  go_upto_region 12 with fail
  replace b0 := b0.alloc (.cells #[.string ⟨#[]⟩, .string ⟨#[]⟩, .int .i64 0] 46); replace b2 := b2.alloc (.cells #[.string ⟨#[]⟩, .string ⟨#[]⟩, .int .i64 0] 46); replace he := he.new (.cells #[.string ⟨#[]⟩, .string ⟨#[]⟩, .int .i64 0] 46)
  generalize w10.alloc (.cells #[.string ⟨#[]⟩, .string ⟨#[]⟩, .int .i64 0] 46) = w11 at *
  obtain ⟨c0, f0⟩ := b0.rules
  obtain ⟨c2, f2⟩ := b2.rules
  have heq := EntryD.run_eql E ({ f with body := bd } : EntryD)
  simp only at heq
  have n3 := N3.out
  clear b0 b2
  cases hq : E.eqb ({ f with body := bd } : EntryD)
  · rw [hq] at heq n3
    go_wp2_with fail
    go_ret
    exact ⟨rfl, he⟩
  · rw [hq] at heq n3
    go_wp2_with fail
    go_ret
    exact ⟨rfl, he⟩

set_option maxRecDepth 100000 in
theorem LeafOne_holds : Rows.FnLeafOneSaid :=
  lawOver (p := Try.pinned) (c := Rows.fnLeafOneRow) (s := Rows.fnLeafOneSpec) 4 Try.f4 4
    own laidOut (by kernel_rfl) (by kernel_rfl) rfl rfl Try.underlying4
    (fun H ds h => by match ds, h with | [d0], _ => rfl)
    rfl rfl rfl rfl rfl rfl rfl ⟨rfl, rfl, rfl, rfl, rfl⟩ rfl rfl rfl rfl rfl (by kernel_rfl) Try.func4 (by kernel_rfl)
    (of_decide_eq_true (by kernel_rfl)) (by unfold Func.isWrapper; rw [if_neg (of_decide_eq_false (by kernel_rfl))]; exact ⟨rfl, rfl⟩)
    rfl rfl (fun _ _ => rfl) rfl rfl rfl rfl
    (fun os started H enc => ChangeSpec.witness6 (enc := enc) (C := Try.checked) false ⟨#[], #[.slice none 0 0], []⟩ 20 (by kernel_rfl) (by kernel_rfl) (by kernel_rfl) (by kernel_rfl))
    (fun W args h => by
      have hs := h.size
      obtain ⟨l⟩ := args
      match l, hs with
      | [v0], _ =>
        obtain ⟨base0, n0, o0, t0⟩ := h.arg 0 22 v0 rfl rfl
        obtain ⟨A0, l0, c0, rfl⟩ := okWide_slice Try.underlying22 o0
        obtain ⟨B0, d0, a, e0, x0, y0, r0, k0⟩ := typed_slice byteC ByteIn 1 Try.underlying22 (by kernel_rfl) (by decide) (fun _ => rfl) (fun m es h => byte_typed h) t0
        obtain ⟨rfl, rfl, rfl⟩ : A0 = B0 ∧ l0 = a.length ∧ c0 = d0 := by simpa [Value.cells] using e0
        exact lawLeafOne_walk A0 c0 a W (Nat.le_trans x0 y0) k0 r0)
#print axioms LeafOne_holds
end Go.Proofs.Ytichegndafnjeaa

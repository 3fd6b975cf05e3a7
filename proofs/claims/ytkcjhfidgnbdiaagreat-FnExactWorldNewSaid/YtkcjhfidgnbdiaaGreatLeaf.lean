/-
  ReadReceipt: walks. No condition.
  Entries and their texts: walks. No condition.
-/
import Derived.Test.YtkcjhfidgnbdiaaGreatConvReceipt
namespace Go.Proofs.YtkcjhfidgnbdiaaGreat
set_option linter.unusedSimpArgs false
open Go.RowKit
set_option linter.unusedVariables false

theorem rdShortNext_pos (T : ByteArray) (r : Rd) (n : Nat) (h : r.pos ≤ T.size) : (rdShortNext T r n).pos ≤ T.size := rdNext_pos T _ _ (rdNext_pos T r n h)
def rr0 : Rd := ⟨0, false⟩
def rr1 (T : ByteArray) : Rd := rdNext T rr0 1
def rr2 (T : ByteArray) : Rd := rdShortNext T (rr1 T) 1
def rr3 (T : ByteArray) : Rd := rdShortNext T (rr2 T) 1
def rr4 (T : ByteArray) : Rd := rdNext T (rr3 T) 2
/-- What is read of a receipt. -/
def rrD (T : ByteArray) : ReceiptD := ⟨rdShort T (rr1 T) 1, rdShort T (rr2 T) 1, (beNum (rdTake T (rr3 T) 2) : Int)⟩
def rrKind (T : ByteArray) : Bool := (rdTake T rr0 1).toList == [82]
def rrImpl (T : ByteArray) : Bool := rrKind T && rdDone T (rr4 T) && receiptOk (rrD T)
/-- How reading a receipt ends. -/
def rrRes (ok : Bool) (d : ReceiptD) : Ending := .returned (.tuple #[.agg (if ok then d else ⟨⟨#[]⟩, ⟨#[]⟩, 0⟩ : ReceiptD).cells.toArray, .bool ok])
def ReceiptD.zero : ReceiptD := ⟨⟨#[]⟩, ⟨#[]⟩, 0⟩

theorem rdTake_le (T : ByteArray) (r : Rd) (n : Nat) : (rdTake T r n).size ≤ T.size := by
  unfold rdTake
  split
  · exact Nat.zero_le _
  · rw [ByteArray.size_extract]; omega
theorem rrD_ok (T : ByteArray) (hT : T.size ≤ 1099511627776) : (rrD T).Ok := by
  have h1 := rdTake_le T (rdNext T (rr1 T) 1) (beNum (rdTake T (rr1 T) 1))
  have h2 := rdTake_le T (rdNext T (rr2 T) 1) (beNum (rdTake T (rr2 T) 1))
  have h3 := beNum_le (rdTake T (rr3 T) 2) (Nat.le_trans (rdTake_size _ _ _) (by decide))
  refine ⟨?_, ?_, ?_⟩
  · unfold maxLen; show (rdTake T (rdNext T (rr1 T) 1) (beNum (rdTake T (rr1 T) 1))).size ≤ _; omega
  · unfold maxLen; show (rdTake T (rdNext T (rr2 T) 1) (beNum (rdTake T (rr2 T) 1))).size ≤ _; omega
  · show (Lit.int .i64 (beNum (rdTake T (rr3 T) 2) : Int)).wf = true
    simp [Lit.wf, IntKind.min, IntKind.max, IntKind.signed, IntKind.bits]
    omega

set_option maxHeartbeats 2000000 in
set_option maxRecDepth 100000 in
theorem ReadReceipt_any (T : ByteArray) (w : World) (hT : T.size ≤ 1099511627776) :
    Calls Tryz.prog 208 #[.string T] w fun e w' => e = rrRes (rrImpl T) (rrD T) ∧ Ext w w' := by
  go_enter Tryz.func208, Tryz.ntmps208
  go_wp2_with fail
  have hR := (Blk.new w 97 #[.string ⟨#[]⟩, .string ⟨#[]⟩, .int .i64 0]).alloc (.cells #[.string T, .int .i64 0, .bool false] 113)
  have hB : Blk _ _ 113 (rdCells T rr0) := Blk.new (w.alloc (.cells #[.string ⟨#[]⟩, .string ⟨#[]⟩, .int .i64 0] 97)) 113 #[.string T, .int .i64 0, .bool false]
  have he := Ext.new (Ext.new (Below.refl w.heap.size w) (.cells #[.string ⟨#[]⟩, .string ⟨#[]⟩, .int .i64 0] 97)) (.cells #[.string T, .int .i64 0, .bool false] 113)
  simp only [World.size_alloc] at hB
  refine (bytes_any _ T rr0 1 _ hB (Nat.zero_le _) hT (by decide)).mono ?_
  rintro e w1 ⟨rfl, hB, hx⟩
  replace hR := hR.extBut hx (by omega); replace he := he.nextBut (by omega) hx; clear hx
  go_wp2_with fail
  refine (short_any _ T (rr1 T) 1 _ hB (rdNext_pos _ _ _ (Nat.zero_le _)) hT (by decide)).mono ?_
  rintro e w2 ⟨rfl, hB, hx⟩
  replace hR := hR.extBut hx (by omega); replace he := he.nextBut (by omega) hx; clear hx
  go_wp2_with fail
  have hgl := hB.lt
  have hD := Blk.new w2 97 #[.string (rdShort T (rr1 T) 1), .string ⟨#[]⟩, .int .i64 0]
  replace hR := hR.alloc (.cells #[.string (rdShort T (rr1 T) 1), .string ⟨#[]⟩, .int .i64 0] 97)
  replace hB := hB.alloc (.cells #[.string (rdShort T (rr1 T) 1), .string ⟨#[]⟩, .int .i64 0] 97)
  replace he := he.new (.cells #[.string (rdShort T (rr1 T) 1), .string ⟨#[]⟩, .int .i64 0] 97)
  refine (short_any _ T (rr2 T) 1 _ hB (rdShortNext_pos _ _ _ (rdNext_pos _ _ _ (Nat.zero_le _))) hT (by decide)).mono ?_
  rintro e w3 ⟨rfl, hB, hx⟩
  replace hR := hR.extBut hx (by omega); replace hD := hD.extBut hx (by omega); replace he := he.nextBut (by omega) hx; clear hx
  obtain ⟨g2, hg2⟩ : ∃ g2, g2 = w2.heap.size := ⟨_, rfl⟩
  rw [← hg2] at hD hgl
  rw [← hg2]
  have hq1 : ¬ w.heap.size = g2 := by omega
  have hq2 : ¬ w.heap.size + 1 = g2 := by omega
  clear hg2
  obtain ⟨hc, hf⟩ := hD.rules
  go_wp2_with fail
  clear hc hf
  replace hR := hR.far (p := ⟨g2, 1, none⟩) hq1 (.string (rdShort T (rr2 T) 1))
  replace hB := hB.far (p := ⟨g2, 1, none⟩) hq2 (.string (rdShort T (rr2 T) 1))
  replace hD := hD.set_ 1 (.string (rdShort T (rr2 T) 1))
  replace he : Ext w _ := Below.setCell he (p := ⟨g2, 1, none⟩) (by show w.heap.size ≤ g2; omega) (.string (rdShort T (rr2 T) 1))
  refine (number_any _ T (rr3 T) 2 _ hB (rdShortNext_pos _ _ _ (rdShortNext_pos _ _ _ (rdNext_pos _ _ _ (Nat.zero_le _)))) hT (by decide)).mono ?_
  rintro e w4 ⟨rfl, hB, hx⟩
  replace hR := hR.extBut hx (by omega); replace hD := hD.extBut hx (by omega); replace he := he.nextBut (by omega) hx; clear hx
  obtain ⟨hc, hf⟩ := hD.rules
  go_upto_region 6 with fail
  clear hc hf
  replace hR := hR.far (p := ⟨g2, 2, none⟩) hq1 (.int .i64 (beNum (rdTake T (rr3 T) 2) : Int))
  replace hB := hB.far (p := ⟨g2, 2, none⟩) hq2 (.int .i64 (beNum (rdTake T (rr3 T) 2) : Int))
  replace hD := hD.set_ 2 (.int .i64 (beNum (rdTake T (rr3 T) 2) : Int))
  replace he : Ext w _ := Below.setCell he (p := ⟨g2, 2, none⟩) (by show w.heap.size ≤ g2; omega) (.int .i64 (beNum (rdTake T (rr3 T) 2) : Int))
  replace hD : Blk _ g2 97 #[.string (rrD T).reader, .string (rrD T).topic, .int .i64 (rrD T).index] := hD
  replace hB : Blk _ _ 113 (rdCells T (rr4 T)) := hB
  generalize w4.setCell ⟨g2, 2, none⟩ (.int .i64 (beNum (rdTake T (rr3 T) 2) : Int)) = w5 at *
  obtain ⟨hc, hf⟩ := hD.rules
  obtain ⟨hrc, hrf⟩ := hR.rules
  cases b1 : rrKind T
  · have Hi := Lib.hid (show rrImpl T = false by simp [rrImpl, b1])
    unfold rrKind at b1
    go_wp2_with fail
    have hz := hR.put 0 ReceiptD.zero.cells ReceiptD.zero.cells.toArray (by decide) rfl
    have hx := ext_setCells (W := w) (g := w.heap.size) (Nat.le_refl _) ReceiptD.zero.cells 0 w5 he
    refine ret_row_tmp rfl rfl hz Tryz.underlying97 rfl (by kernel_rfl) rfl ⟨?_, hx⟩
    rw [Hi.out]; rfl
  · cases b2 : rdDone T (rr4 T)
    · have Hi := Lib.hid (show rrImpl T = false by simp [rrImpl, b2])
      unfold rrKind at b1
      go_wp2_with fail
      refine (done_any _ T (rr4 T) w5 hB).mono ?_
      rintro e w6 ⟨rfl, m, rfl⟩
      replace hR := hR.drewN m; replace he := he.drewN m
      go_wp2_with fail
      have hz := hR.put 0 ReceiptD.zero.cells ReceiptD.zero.cells.toArray (by decide) rfl
      have hx := ext_setCells (W := w) (g := w.heap.size) (Nat.le_refl _) ReceiptD.zero.cells 0 (w5.drewN m) he
      refine ret_row_tmp rfl rfl hz Tryz.underlying97 rfl (by kernel_rfl) rfl ⟨?_, hx⟩
      rw [Hi.out]; rfl
    · have hk := rrD_ok T hT
      cases b3 : receiptOk (rrD T)
      · have Hi := Lib.hid (show rrImpl T = false by simp [rrImpl, b1, b2, b3])
        unfold rrKind at b1
        go_wp2_with fail
        refine (done_any _ T (rr4 T) w5 hB).mono ?_
        rintro e w6 ⟨rfl, m, rfl⟩
        replace hR := hR.drewN m; replace hD := hD.drewN m; replace he := he.drewN m
        go_wp2_with fail
        refine (ReceiptOk_any (rrD T) _ hk).mono ?_
        rintro e w7 ⟨rfl, h1⟩
        replace hR := hR.ext h1; replace hD := hD.ext h1; replace he := he.next h1; clear h1 hrc hrf hc hf
        obtain ⟨hc, hf⟩ := hD.rules
        obtain ⟨hrc, hrf⟩ := hR.rules
        go_wp2_with fail
        have hz := hR.put 0 ReceiptD.zero.cells ReceiptD.zero.cells.toArray (by decide) rfl
        have hx := ext_setCells (W := w) (g := w.heap.size) (Nat.le_refl _) ReceiptD.zero.cells 0 w7 he
        refine ret_row_tmp rfl rfl hz Tryz.underlying97 rfl (by kernel_rfl) rfl ⟨?_, hx⟩
        rw [Hi.out]; rfl
      · have Hi := Lib.hid (show rrImpl T = true by simp [rrImpl, b1, b2, b3])
        unfold rrKind at b1
        go_wp2_with fail
        refine (done_any _ T (rr4 T) w5 hB).mono ?_
        rintro e w6 ⟨rfl, m, rfl⟩
        replace hR := hR.drewN m; replace hD := hD.drewN m; replace he := he.drewN m
        go_wp2_with fail
        refine (ReceiptOk_any (rrD T) _ hk).mono ?_
        rintro e w7 ⟨rfl, h1⟩
        replace hR := hR.ext h1; replace hD := hD.ext h1; replace he := he.next h1; clear h1 hrc hrf hc hf
        obtain ⟨hc, hf⟩ := hD.rules
        obtain ⟨hrc, hrf⟩ := hR.rules
        go_wp2_with fail
        have hz := hR.put 0 (rrD T).cells (rrD T).cells.toArray (by simp [ReceiptD.cells]) rfl
        have hx := ext_setCells (W := w) (g := w.heap.size) (Nat.le_refl _) (rrD T).cells 0 w7 he
        refine ret_row_tmp rfl rfl hz Tryz.underlying97 rfl (by kernel_rfl) rfl ⟨?_, hx⟩
        rw [Hi.out]; rfl
end Go.Proofs.YtkcjhfidgnbdiaaGreat
namespace Go.Proofs.YtkcjhfidgnbdiaaGreat
set_option linter.unusedSimpArgs false
open Go.RowKit
set_option linter.unusedVariables false

def partsB (t : Int) (k b : ByteArray) : Bool := inR t 0 1000000000 && decide ((k.size : Int) ≤ 40) && decide ((b.size : Int) ≤ 400)
def entryOk (d : EntryD) : Bool := nameOk d.topic && inR d.index 0 511 && partsB d.time d.key d.body
/-- The text of a right entry. -/
def leafT (d : EntryD) : ByteArray := ⟨#[69]⟩ ++ (octB d.topic.size ++ d.topic) ++ (octB (d.index / 256) ++ octB d.index) ++ lowB d.time.toNat 4 ++ (octB d.key.size ++ d.key) ++ (octB ((d.body.size : Int) / 256) ++ octB d.body.size) ++ d.body
def leafText (d : EntryD) : ByteArray := if entryOk d then leafT d else ⟨#[]⟩
theorem partsOk_any (t : Int) (k b : ByteArray) (w : World) (hk : k.size ≤ maxLen) (hb : b.size ≤ maxLen) : Calls Tryz.prog 268 #[.int .i64 t, .string k, .string b] w fun e w' => e = .returned (.bool (partsB t k b)) ∧ w = w' := by
  unfold maxLen at *
  cases c1 : inR t 0 1000000000
  · go_enter Tryz.func268, Tryz.ntmps268
    go_wp2_with (go_at_call 140; refine (inRange_any _ _ _ _).mono ?_; rintro e w' ⟨rfl, rfl⟩)
    go_ret
    exact ⟨by simp [partsB, c1], rfl⟩
  · by_cases c2 : (k.size : Int) ≤ 40
    all_goals
      go_enter Tryz.func268, Tryz.ntmps268
      go_wp2_with (go_at_call 140; refine (inRange_any _ _ _ _).mono ?_; rintro e w' ⟨rfl, rfl⟩)
      go_ret
      exact ⟨by first | (simp [partsB, c1, c2]; done) | (simp [partsB, c1]; omega), rfl⟩
theorem EntryOk_any (d : EntryD) (w : World) (hd : d.Ok) : Calls Tryz.prog 207 #[.agg #[.string d.topic, .int .i64 d.index, .int .i64 d.time, .string d.key, .string d.body]] w fun e w' => e = .returned (.bool (entryOk d)) ∧ Ext w w' := by
  obtain ⟨k0, _, _, k3, k4⟩ := hd
  cases b1 : nameOk d.topic <;> cases b2 : inR d.index 0 511
  all_goals
    go_enter Tryz.func207, Tryz.ntmps207
    go_wp2_with (first | (go_at_call 177; refine (NameOk_any _ _ k0).mono ?_; rintro e w' ⟨rfl, rfl⟩) | (go_at_call 267; refine (isIndex_any _ _).mono ?_; rintro e w' ⟨rfl, rfl⟩) | (go_at_call 268; refine (partsOk_any _ _ _ _ k3 k4).mono ?_; rintro e w' ⟨rfl, rfl⟩))
    go_ret
    exact ⟨by simp [entryOk, b1, b2], by go_grown⟩
theorem specEntryOk_any (d : EntryD) (w : World) (hd : d.Ok) : Calls Tryz.prog 194 #[.agg #[.string d.topic, .int .i64 d.index, .int .i64 d.time, .string d.key, .string d.body]] w fun e w' => e = .returned (.bool (entryOk d)) ∧ Ext w w' := by
  obtain ⟨k0, _, _, k3, k4⟩ := hd
  unfold maxLen at k3 k4
  cases b1 : nameOk d.topic
  · go_enter Tryz.func194, Tryz.ntmps194
    go_wp2_with (go_at_call 175; refine (specNameOk_any _ _ k0).mono ?_; rintro e w' ⟨rfl, rfl⟩)
    go_ret
    exact ⟨by simp [entryOk, b1], by go_grown⟩
  · cases b2 : inR d.index 0 511
    · go_enter Tryz.func194, Tryz.ntmps194
      go_wp2_with (first | (go_at_call 175; refine (specNameOk_any _ _ k0).mono ?_; rintro e w' ⟨rfl, rfl⟩) | (go_at_call 174; refine (l01In_any _ _ _ _).mono ?_; rintro e w' ⟨rfl, rfl⟩))
      go_ret
      exact ⟨by simp [entryOk, b1, b2], by go_grown⟩
    · cases b3 : inR d.time 0 1000000000
      · go_enter Tryz.func194, Tryz.ntmps194
        go_wp2_with (first | (go_at_call 175; refine (specNameOk_any _ _ k0).mono ?_; rintro e w' ⟨rfl, rfl⟩) | (go_at_call 174; refine (l01In_any _ _ _ _).mono ?_; rintro e w' ⟨rfl, rfl⟩))
        go_ret
        exact ⟨by simp [entryOk, partsB, b1, b2, b3], by go_grown⟩
      · by_cases b4 : (d.key.size : Int) ≤ 40
        all_goals
          go_enter Tryz.func194, Tryz.ntmps194
          go_wp2_with (first | (go_at_call 175; refine (specNameOk_any _ _ k0).mono ?_; rintro e w' ⟨rfl, rfl⟩) | (go_at_call 174; refine (l01In_any _ _ _ _).mono ?_; rintro e w' ⟨rfl, rfl⟩))
          go_ret
          exact ⟨by first | (simp [entryOk, partsB, b1, b2, b3, b4]; done) | (simp [entryOk, partsB, b1, b2, b3]; omega), by go_grown⟩
theorem ofInts_four (n : Nat) : ofInts [(n : Int) / 16777216 % 256, (n : Int) / 65536 % 256, (n : Int) / 256 % 256, (n : Int) % 256] = lowB n 4 := by
  show _ = octB ((n / 256 ^ 3 : Nat) : Int) ++ (octB ((n / 256 ^ 2 : Nat) : Int) ++ (octB ((n / 256 ^ 1 : Nat) : Int) ++ (octB ((n / 256 ^ 0 : Nat) : Int) ++ ⟨#[]⟩)))
  rw [append_nil]
  have e : ((n / 256 ^ 3 : Nat) : Int) = (n : Int) / 16777216 ∧ ((n / 256 ^ 2 : Nat) : Int) = (n : Int) / 65536 ∧ ((n / 256 ^ 1 : Nat) : Int) = (n : Int) / 256 ∧ ((n / 256 ^ 0 : Nat) : Int) = (n : Int) := by
    refine ⟨?_, ?_, ?_, ?_⟩ <;> simp
  rw [e.1, e.2.1, e.2.2.1, e.2.2.2]
  rfl
set_option maxRecDepth 100000 in
theorem WordTextN_any (n : Nat) (w : World) (hn : n < 4294967296) : Calls Tryz.prog 237 #[.int .u32 (n : Int)] w fun e w' => e = .returned (.string (lowB n 4)) ∧ Ext w w' := by
  have hconv := conv_bytes [(n : Int) / 16777216 % 256, (n : Int) / 65536 % 256, (n : Int) / 256 % 256, (n : Int) % 256] (by intro x hx; simp only [List.mem_cons, List.not_mem_nil, or_false] at hx; omega) w
  rw [ofInts_four] at hconv
  simp only [List.length_cons, List.length_nil, Nat.zero_add, List.map_cons, List.map_nil, Nat.reduceAdd, show (n : Int) / 16777216 % 256 = (n : Int) / 16777216 from by omega] at hconv
  go_enter Tryz.func237, Tryz.ntmps237
  go_wp2_with fail
  go_ret
  exact ⟨rfl, by go_grown⟩
theorem WordTextI_any (n : Int) (w : World) (h0 : 0 ≤ n) (hn : n < 4294967296) : Calls Tryz.prog 237 #[.int .u32 n] w fun e w' => e = .returned (.string (lowB n.toNat 4)) ∧ Ext w w' := by
  obtain ⟨m, rfl⟩ := Int.eq_ofNat_of_zero_le h0
  rw [Int.toNat_natCast]
  exact WordTextN_any m w (by omega)
end Go.Proofs.YtkcjhfidgnbdiaaGreat

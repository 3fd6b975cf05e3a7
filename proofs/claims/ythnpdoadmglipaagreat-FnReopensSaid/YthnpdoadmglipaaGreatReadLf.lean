/-
  ReadRec; ReadLf: No condition.
-/
import Derived.Test.YthnpdoadmglipaaGreatLeaf
import Derived.Test.YthnpdoadmglipaaGreatClientNw
namespace Go.Proofs.YthnpdoadmglipaaGreat
set_option maxHeartbeats 2000000
set_option maxRecDepth 100000
set_option linter.unusedSimpArgs false
open Go.RowKit
set_option linter.unusedVariables false
theorem rdShortNext_pos (T : ByteArray) (r : Rd) (n : Nat) (h : r.pos ≤ T.size) : (rdShortNext T r n).pos ≤ T.size := rdNext_pos T _ _ (rdNext_pos T r n h)
def rr0 : Rd := ⟨0, false⟩
def rr1 (T : ByteArray) : Rd := rdNext T rr0 1
def rr2 (T : ByteArray) : Rd := rdShortNext T (rr1 T) 1
def rr3 (T : ByteArray) : Rd := rdShortNext T (rr2 T) 1
def rr4 (T : ByteArray) : Rd := rdNext T (rr3 T) 2
def rrD (T : ByteArray) : ReceiptD := ⟨rdShort T (rr1 T) 1, rdShort T (rr2 T) 1, (beNum (rdTake T (rr3 T) 2) : Int)⟩
def rrKind (T : ByteArray) : Bool := (rdTake T rr0 1).toList == [82]
def rrImpl (T : ByteArray) : Bool := rrKind T && rdDone T (rr4 T) && receiptOk (rrD T)
def rrRes (ok : Bool) (d : ReceiptD) : Ending := .returned (.tuple #[.agg (if ok then d else ⟨⟨#[]⟩, ⟨#[]⟩, 0⟩ : ReceiptD).cells.toArray, .bool ok])
def ReceiptD.zero : ReceiptD := ⟨⟨#[]⟩, ⟨#[]⟩, 0⟩
theorem rdTake_le (T : ByteArray) (r : Rd) (n : Nat) : (rdTake T r n).size ≤ T.size := by
 unfold rdTake
 split
 · exact Nat.zero_le _
 · rw [ByteArray.size_extract]; omega
theorem rrD_ok (T : ByteArray) (hT : T.size ≤ 1099511627776) : (rrD T).Ok := by
 have h1 := rdTake_le T (rdNext T (rr1 T) 1) (beNum (rdTake T (rr1 T) 1))
 have h2 := rdTake_le T (rdNext T (rr2 T) 1) (beNum (rdTake T (rr2 T) 1))
 have h3 := beNum_le (rdTake T (rr3 T) 2) (Nat.le_trans (rdTake_size _ _ _) (by decide))
 refine ⟨?_, ?_, ?_⟩
 · unfold maxLen; show (rdTake T (rdNext T (rr1 T) 1) (beNum (rdTake T (rr1 T) 1))).size ≤ _; omega
 · unfold maxLen; show (rdTake T (rdNext T (rr2 T) 1) (beNum (rdTake T (rr2 T) 1))).size ≤ _; omega
 · show (Lit.int .i64 (beNum (rdTake T (rr3 T) 2) : Int)).wf = true
   simp [Lit.wf, IntKind.min, IntKind.max, IntKind.signed, IntKind.bits]
   omega
theorem ReadReceipt_any (T : ByteArray) (w : World) (hT : T.size ≤ 1099511627776) :
 Calls Tryz.prog 75 #[.string T] w fun e w' => e = rrRes (rrImpl T) (rrD T) ∧ Ext w w' := by
 go_enter Tryz.func75, Tryz.ntmps75
 go_wp2_with fail
 have hR := (Blk.new w 92 #[.string ⟨#[]⟩, .string ⟨#[]⟩, .int .i64 0]).alloc (.cells #[.string T, .int .i64 0, .bool false] 69)
 have hB : Blk _ _ 69 (rdCells T rr0) := Blk.new (w.alloc (.cells #[.string ⟨#[]⟩, .string ⟨#[]⟩, .int .i64 0] 92)) 69 #[.string T, .int .i64 0, .bool false]
 have he := Ext.new (Ext.new (Below.refl w.heap.size w) (.cells #[.string ⟨#[]⟩, .string ⟨#[]⟩, .int .i64 0] 92)) (.cells #[.string T, .int .i64 0, .bool false] 69)
 simp only [World.size_alloc] at hB
 refine (bytes_any _ T rr0 1 _ hB (Nat.zero_le _) hT (by decide)).mono ?_
 rintro e w1 ⟨rfl, hB, hx⟩
 replace hR := hR.extBut hx (by omega); replace he := he.nextBut (by omega) hx; clear hx
 go_wp2_with fail
 refine (short_any _ T (rr1 T) 1 _ hB (rdNext_pos _ _ _ (Nat.zero_le _)) hT (by decide)).mono ?_
 rintro e w2 ⟨rfl, hB, hx⟩
 replace hR := hR.extBut hx (by omega); replace he := he.nextBut (by omega) hx; clear hx
 go_wp2_with fail
 have hgl := hB.lt
 have hD := Blk.new w2 92 #[.string (rdShort T (rr1 T) 1), .string ⟨#[]⟩, .int .i64 0]
 replace hR := hR.alloc (.cells #[.string (rdShort T (rr1 T) 1), .string ⟨#[]⟩, .int .i64 0] 92)
 replace hB := hB.alloc (.cells #[.string (rdShort T (rr1 T) 1), .string ⟨#[]⟩, .int .i64 0] 92)
 replace he := he.new (.cells #[.string (rdShort T (rr1 T) 1), .string ⟨#[]⟩, .int .i64 0] 92)
 refine (short_any _ T (rr2 T) 1 _ hB (rdShortNext_pos _ _ _ (rdNext_pos _ _ _ (Nat.zero_le _))) hT (by decide)).mono ?_
 rintro e w3 ⟨rfl, hB, hx⟩
 replace hR := hR.extBut hx (by omega); replace hD := hD.extBut hx (by omega); replace he := he.nextBut (by omega) hx; clear hx
 obtain ⟨g2, hg2⟩ : ∃ g2, g2 = w2.heap.size := ⟨_, rfl⟩
 rw [← hg2] at hD hgl
 rw [← hg2]
 have hq1 : ¬ w.heap.size = g2 := by omega
 have hq2 : ¬ w.heap.size + 1 = g2 := by omega
 clear hg2
 obtain ⟨hc, hf⟩ := hD.rules
 go_wp2_with fail
 clear hc hf
 replace hR := hR.far (p := ⟨g2, 1, none⟩) hq1 (.string (rdShort T (rr2 T) 1))
 replace hB := hB.far (p := ⟨g2, 1, none⟩) hq2 (.string (rdShort T (rr2 T) 1))
 replace hD := hD.set_ 1 (.string (rdShort T (rr2 T) 1))
 replace he : Ext w _ := Below.setCell he (p := ⟨g2, 1, none⟩) (by show w.heap.size ≤ g2; omega) (.string (rdShort T (rr2 T) 1))
 refine (number_any _ T (rr3 T) 2 _ hB (rdShortNext_pos _ _ _ (rdShortNext_pos _ _ _ (rdNext_pos _ _ _ (Nat.zero_le _)))) hT (by decide)).mono ?_
 rintro e w4 ⟨rfl, hB, hx⟩
 replace hR := hR.extBut hx (by omega); replace hD := hD.extBut hx (by omega); replace he := he.nextBut (by omega) hx; clear hx
 obtain ⟨hc, hf⟩ := hD.rules
 go_upto_region 6 with fail
 clear hc hf
 replace hR := hR.far (p := ⟨g2, 2, none⟩) hq1 (.int .i64 (beNum (rdTake T (rr3 T) 2) : Int))
 replace hB := hB.far (p := ⟨g2, 2, none⟩) hq2 (.int .i64 (beNum (rdTake T (rr3 T) 2) : Int))
 replace hD := hD.set_ 2 (.int .i64 (beNum (rdTake T (rr3 T) 2) : Int))
 replace he : Ext w _ := Below.setCell he (p := ⟨g2, 2, none⟩) (by show w.heap.size ≤ g2; omega) (.int .i64 (beNum (rdTake T (rr3 T) 2) : Int))
 replace hD : Blk _ g2 92 #[.string (rrD T).reader, .string (rrD T).topic, .int .i64 (rrD T).index] := hD
 replace hB : Blk _ _ 69 (rdCells T (rr4 T)) := hB
 generalize w4.setCell ⟨g2, 2, none⟩ (.int .i64 (beNum (rdTake T (rr3 T) 2) : Int)) = w5 at *
 obtain ⟨hc, hf⟩ := hD.rules
 obtain ⟨hrc, hrf⟩ := hR.rules
 cases b1 : rrKind T
 · have Hi := hU (show rrImpl T = false by simp [rrImpl, b1])
   unfold rrKind at b1
   go_wp2_with fail
   have hz := hR.put 0 ReceiptD.zero.cells ReceiptD.zero.cells.toArray (by decide) rfl
   have hx := ext_setCells (W := w) (g := w.heap.size) (Nat.le_refl _) ReceiptD.zero.cells 0 w5 he
   refine ret_row_tmp rfl rfl hz Tryz.underlying92 rfl (by kernel_rfl) rfl ⟨?_, hx⟩
   rw [Hi.out]; rfl
 · cases b2 : rdDone T (rr4 T)
   · have Hi := hU (show rrImpl T = false by simp [rrImpl, b2])
     unfold rrKind at b1
     go_wp2_with fail
     refine (done_any _ T (rr4 T) w5 hB).mono ?_
     rintro e w6 ⟨rfl, m, rfl⟩
     replace hR := hR.drewN m; replace he := he.drewN m
     go_wp2_with fail
     have hz := hR.put 0 ReceiptD.zero.cells ReceiptD.zero.cells.toArray (by decide) rfl
     have hx := ext_setCells (W := w) (g := w.heap.size) (Nat.le_refl _) ReceiptD.zero.cells 0 (w5.drewN m) he
     refine ret_row_tmp rfl rfl hz Tryz.underlying92 rfl (by kernel_rfl) rfl ⟨?_, hx⟩
     rw [Hi.out]; rfl
   · have hk := rrD_ok T hT
     cases b3 : receiptOk (rrD T)
     · have Hi := hU (show rrImpl T = false by simp [rrImpl, b1, b2, b3])
       unfold rrKind at b1
       go_wp2_with fail
       refine (done_any _ T (rr4 T) w5 hB).mono ?_
       rintro e w6 ⟨rfl, m, rfl⟩
       replace hR := hR.drewN m; replace hD := hD.drewN m; replace he := he.drewN m
       go_wp2_with fail
       refine (ReceiptOk_any (rrD T) _ hk).mono ?_
       rintro e w7 ⟨rfl, h1⟩
       replace hR := hR.ext h1; replace hD := hD.ext h1; replace he := he.next h1; clear h1 hrc hrf hc hf
       obtain ⟨hc, hf⟩ := hD.rules
       obtain ⟨hrc, hrf⟩ := hR.rules
       go_wp2_with fail
       have hz := hR.put 0 ReceiptD.zero.cells ReceiptD.zero.cells.toArray (by decide) rfl
       have hx := ext_setCells (W := w) (g := w.heap.size) (Nat.le_refl _) ReceiptD.zero.cells 0 w7 he
       refine ret_row_tmp rfl rfl hz Tryz.underlying92 rfl (by kernel_rfl) rfl ⟨?_, hx⟩
       rw [Hi.out]; rfl
     · have Hi := hU (show rrImpl T = true by simp [rrImpl, b1, b2, b3])
       unfold rrKind at b1
       go_wp2_with fail
       refine (done_any _ T (rr4 T) w5 hB).mono ?_
       rintro e w6 ⟨rfl, m, rfl⟩
       replace hR := hR.drewN m; replace hD := hD.drewN m; replace he := he.drewN m
       go_wp2_with fail
       refine (ReceiptOk_any (rrD T) _ hk).mono ?_
       rintro e w7 ⟨rfl, h1⟩
       replace hR := hR.ext h1; replace hD := hD.ext h1; replace he := he.next h1; clear h1 hrc hrf hc hf
       obtain ⟨hc, hf⟩ := hD.rules
       obtain ⟨hrc, hrf⟩ := hR.rules
       go_wp2_with fail
       have hz := hR.put 0 (rrD T).cells (rrD T).cells.toArray (by simp [ReceiptD.cells]) rfl
       have hx := ext_setCells (W := w) (g := w.heap.size) (Nat.le_refl _) (rrD T).cells 0 w7 he
       refine ret_row_tmp rfl rfl hz Tryz.underlying92 rfl (by kernel_rfl) rfl ⟨?_, hx⟩
       rw [Hi.out]; rfl
set_option maxHeartbeats 4000000
def rl0 : Rd := ⟨0, false⟩
def rl1 (T : ByteArray) : Rd := rdNext T rl0 1
def rl2 (T : ByteArray) : Rd := rdShortNext T (rl1 T) 1
def rl3 (T : ByteArray) : Rd := rdNext T (rl2 T) 2
def rl4 (T : ByteArray) : Rd := rdNext T (rl3 T) 4
def rl5 (T : ByteArray) : Rd := rdShortNext T (rl4 T) 1
def rl6 (T : ByteArray) : Rd := rdShortNext T (rl5 T) 2
theorem rl0_pos (T : ByteArray) : rl0.pos ≤ T.size := Nat.zero_le _
theorem rl1_pos (T : ByteArray) : (rl1 T).pos ≤ T.size := rdNext_pos _ _ _ (rl0_pos T)
theorem rl2_pos (T : ByteArray) : (rl2 T).pos ≤ T.size := rdShortNext_pos _ _ _ (rl1_pos T)
theorem rl3_pos (T : ByteArray) : (rl3 T).pos ≤ T.size := rdNext_pos _ _ _ (rl2_pos T)
theorem rl4_pos (T : ByteArray) : (rl4 T).pos ≤ T.size := rdNext_pos _ _ _ (rl3_pos T)
theorem rl5_pos (T : ByteArray) : (rl5 T).pos ≤ T.size := rdShortNext_pos _ _ _ (rl4_pos T)
def rlD (T : ByteArray) : EntryD := ⟨rdShort T (rl1 T) 1, (beNum (rdTake T (rl2 T) 2) : Int), (beNum (rdTake T (rl3 T) 4) : Int), rdShort T (rl4 T) 1, rdShort T (rl5 T) 2⟩
def rlKind (T : ByteArray) : Bool := (rdTake T rl0 1).toList == [69]
def rlImpl (T : ByteArray) : Bool := rlKind T && rdDone T (rl6 T) && entryOk (rlD T)
def rlOut (ok : Bool) (d : EntryD) : EntryD := if ok then d else ⟨⟨#[]⟩, 0, 0, ⟨#[]⟩, ⟨#[]⟩⟩
def rlRes (ok : Bool) (d : EntryD) : Ending := .returned (.tuple #[.agg (rlOut ok d).cells.toArray, .bool ok])
def EntryD.zero : EntryD := ⟨⟨#[]⟩, 0, 0, ⟨#[]⟩, ⟨#[]⟩⟩
theorem rlD_ok (T : ByteArray) (hT : T.size ≤ 1099511627776) : (rlD T).Ok := by
 have h1 := rdTake_le T (rdNext T (rl1 T) 1) (beNum (rdTake T (rl1 T) 1))
 have h4 := rdTake_le T (rdNext T (rl4 T) 1) (beNum (rdTake T (rl4 T) 1))
 have h5 := rdTake_le T (rdNext T (rl5 T) 2) (beNum (rdTake T (rl5 T) 2))
 have h2 := beNum_le (rdTake T (rl2 T) 2) (Nat.le_trans (rdTake_size _ _ _) (by decide))
 have h3 := beNum_le (rdTake T (rl3 T) 4) (rdTake_size _ _ _)
 refine ⟨?_, ?_, ?_, ?_, ?_⟩
 · unfold maxLen; show (rdTake T (rdNext T (rl1 T) 1) (beNum (rdTake T (rl1 T) 1))).size ≤ _; omega
 · show (Lit.int .i64 (beNum (rdTake T (rl2 T) 2) : Int)).wf = true
   simp [Lit.wf, IntKind.min, IntKind.max, IntKind.signed, IntKind.bits]
   omega
 · show (Lit.int .i64 (beNum (rdTake T (rl3 T) 4) : Int)).wf = true
   simp [Lit.wf, IntKind.min, IntKind.max, IntKind.signed, IntKind.bits]
   omega
 · unfold maxLen; show (rdTake T (rdNext T (rl4 T) 1) (beNum (rdTake T (rl4 T) 1))).size ≤ _; omega
 · unfold maxLen; show (rdTake T (rdNext T (rl5 T) 2) (beNum (rdTake T (rl5 T) 2))).size ≤ _; omega
theorem ReadLeaf_any (T : ByteArray) (w : World) (hT : T.size ≤ 1099511627776) :
 Calls Tryz.prog 73 #[.string T] w fun e w' => e = rlRes (rlImpl T) (rlD T) ∧ Ext w w' := by
 go_enter Tryz.func73, Tryz.ntmps73
 go_wp2_with fail
 have hR := (Blk.new w 130 #[.string ⟨#[]⟩, .int .i64 0, .int .i64 0, .string ⟨#[]⟩, .string ⟨#[]⟩]).alloc (.cells #[.string T, .int .i64 0, .bool false] 69)
 have hB : Blk _ _ 69 (rdCells T rl0) := Blk.new (w.alloc (.cells #[.string ⟨#[]⟩, .int .i64 0, .int .i64 0, .string ⟨#[]⟩, .string ⟨#[]⟩] 130)) 69 #[.string T, .int .i64 0, .bool false]
 have he := Ext.new (Ext.new (Below.refl w.heap.size w) (.cells #[.string ⟨#[]⟩, .int .i64 0, .int .i64 0, .string ⟨#[]⟩, .string ⟨#[]⟩] 130)) (.cells #[.string T, .int .i64 0, .bool false] 69)
 simp only [World.size_alloc] at hB
 refine (bytes_any _ T rl0 1 _ hB (rl0_pos T) hT (by decide)).mono ?_
 rintro e w1 ⟨rfl, hB, hx⟩
 replace hR := hR.extBut hx (by omega); replace he := he.nextBut (by omega) hx; clear hx
 go_wp2_with fail
 refine (short_any _ T (rl1 T) 1 _ hB (rl1_pos T) hT (by decide)).mono ?_
 rintro e w2 ⟨rfl, hB, hx⟩
 replace hR := hR.extBut hx (by omega); replace he := he.nextBut (by omega) hx; clear hx
 go_wp2_with fail
 have hgl := hB.lt
 have hD := Blk.new w2 130 #[.string (rdShort T (rl1 T) 1), .int .i64 0, .int .i64 0, .string ⟨#[]⟩, .string ⟨#[]⟩]
 replace hR := hR.alloc (.cells #[.string (rdShort T (rl1 T) 1), .int .i64 0, .int .i64 0, .string ⟨#[]⟩, .string ⟨#[]⟩] 130)
 replace hB := hB.alloc (.cells #[.string (rdShort T (rl1 T) 1), .int .i64 0, .int .i64 0, .string ⟨#[]⟩, .string ⟨#[]⟩] 130)
 replace he := he.new (.cells #[.string (rdShort T (rl1 T) 1), .int .i64 0, .int .i64 0, .string ⟨#[]⟩, .string ⟨#[]⟩] 130)
 refine (number_any _ T (rl2 T) 2 _ hB (rl2_pos T) hT (by decide)).mono ?_
 rintro e w3 ⟨rfl, hB, hx⟩
 replace hR := hR.extBut hx (by omega); replace hD := hD.extBut hx (by omega); replace he := he.nextBut (by omega) hx; clear hx
 obtain ⟨g2, hg2⟩ : ∃ g2, g2 = w2.heap.size := ⟨_, rfl⟩
 rw [← hg2] at hD hgl
 rw [← hg2]
 have hq1 : ¬ w.heap.size = g2 := by omega
 have hq2 : ¬ w.heap.size + 1 = g2 := by omega
 clear hg2
 obtain ⟨hc, hf⟩ := hD.rules
 go_wp2_with fail
 clear hc hf
 replace hR := hR.far (p := ⟨g2, 1, none⟩) hq1 (.int .i64 (beNum (rdTake T (rl2 T) 2) : Int))
 replace hB := hB.far (p := ⟨g2, 1, none⟩) hq2 (.int .i64 (beNum (rdTake T (rl2 T) 2) : Int))
 replace hD := hD.set_ 1 (.int .i64 (beNum (rdTake T (rl2 T) 2) : Int))
 replace he : Ext w _ := Below.setCell he (p := ⟨g2, 1, none⟩) (by show w.heap.size ≤ g2; omega) (.int .i64 (beNum (rdTake T (rl2 T) 2) : Int))
 refine (number_any _ T (rl3 T) 4 _ hB (rl3_pos T) hT (by decide)).mono ?_
 rintro e w4 ⟨rfl, hB, hx⟩
 replace hR := hR.extBut hx (by omega); replace hD := hD.extBut hx (by omega); replace he := he.nextBut (by omega) hx; clear hx
 obtain ⟨hc, hf⟩ := hD.rules
 go_wp2_with fail
 clear hc hf
 replace hR := hR.far (p := ⟨g2, 2, none⟩) hq1 (.int .i64 (beNum (rdTake T (rl3 T) 4) : Int))
 replace hB := hB.far (p := ⟨g2, 2, none⟩) hq2 (.int .i64 (beNum (rdTake T (rl3 T) 4) : Int))
 replace hD := hD.set_ 2 (.int .i64 (beNum (rdTake T (rl3 T) 4) : Int))
 replace he : Ext w _ := Below.setCell he (p := ⟨g2, 2, none⟩) (by show w.heap.size ≤ g2; omega) (.int .i64 (beNum (rdTake T (rl3 T) 4) : Int))
 refine (short_any _ T (rl4 T) 1 _ hB (rl4_pos T) hT (by decide)).mono ?_
 rintro e w5 ⟨rfl, hB, hx⟩
 replace hR := hR.extBut hx (by omega); replace hD := hD.extBut hx (by omega); replace he := he.nextBut (by omega) hx; clear hx
 obtain ⟨hc, hf⟩ := hD.rules
 go_wp2_with fail
 clear hc hf
 replace hR := hR.far (p := ⟨g2, 3, none⟩) hq1 (.string (rdShort T (rl4 T) 1))
 replace hB := hB.far (p := ⟨g2, 3, none⟩) hq2 (.string (rdShort T (rl4 T) 1))
 replace hD := hD.set_ 3 (.string (rdShort T (rl4 T) 1))
 replace he : Ext w _ := Below.setCell he (p := ⟨g2, 3, none⟩) (by show w.heap.size ≤ g2; omega) (.string (rdShort T (rl4 T) 1))
 refine (short_any _ T (rl5 T) 2 _ hB (rl5_pos T) hT (by decide)).mono ?_
 rintro e w6 ⟨rfl, hB, hx⟩
 replace hR := hR.extBut hx (by omega); replace hD := hD.extBut hx (by omega); replace he := he.nextBut (by omega) hx; clear hx
 obtain ⟨hc, hf⟩ := hD.rules
 go_upto_region 8 with fail
 clear hc hf
 replace hR := hR.far (p := ⟨g2, 4, none⟩) hq1 (.string (rdShort T (rl5 T) 2))
 replace hB := hB.far (p := ⟨g2, 4, none⟩) hq2 (.string (rdShort T (rl5 T) 2))
 replace hD := hD.set_ 4 (.string (rdShort T (rl5 T) 2))
 replace he : Ext w _ := Below.setCell he (p := ⟨g2, 4, none⟩) (by show w.heap.size ≤ g2; omega) (.string (rdShort T (rl5 T) 2))
 replace hD : Blk _ g2 130 #[.string (rlD T).topic, .int .i64 (rlD T).index, .int .i64 (rlD T).time, .string (rlD T).key, .string (rlD T).body] := hD
 replace hB : Blk _ _ 69 (rdCells T (rl6 T)) := hB
 generalize w6.setCell ⟨g2, 4, none⟩ (.string (rdShort T (rl5 T) 2)) = w9 at *
 have hk := rlD_ok T hT
 obtain ⟨hc, hf⟩ := hD.rules
 obtain ⟨hrc, hrf⟩ := hR.rules
 cases b1 : rlKind T
 · have Hi := hU (show rlImpl T = false by simp [rlImpl, b1])
   unfold rlKind at b1
   go_wp2_with fail
   have hz := hR.put 0 EntryD.zero.cells EntryD.zero.cells.toArray (by decide) rfl
   have hx := ext_setCells (W := w) (g := w.heap.size) (Nat.le_refl _) EntryD.zero.cells 0 w9 he
   refine ret_row_tmp rfl rfl hz Tryz.underlying130 rfl (by kernel_rfl) rfl ⟨?_, hx⟩
   rw [Hi.out]; rfl
 · cases b2 : rdDone T (rl6 T)
   · have Hi := hU (show rlImpl T = false by simp [rlImpl, b1, b2])
     unfold rlKind at b1
     go_wp2_with fail
     refine (done_any _ T (rl6 T) w9 hB).mono ?_
     rintro e w10 ⟨rfl, m, rfl⟩
     replace hR := hR.drewN m; replace he := he.drewN m
     go_wp2_with fail
     have hz := hR.put 0 EntryD.zero.cells EntryD.zero.cells.toArray (by decide) rfl
     have hx := ext_setCells (W := w) (g := w.heap.size) (Nat.le_refl _) EntryD.zero.cells 0 (w9.drewN m) he
     refine ret_row_tmp rfl rfl hz Tryz.underlying130 rfl (by kernel_rfl) rfl ⟨?_, hx⟩
     rw [Hi.out]; rfl
   · cases b3 : entryOk (rlD T)
     · have Hi := hU (show rlImpl T = false by simp [rlImpl, b1, b2, b3])
       unfold rlKind at b1
       go_wp2_with fail
       refine (done_any _ T (rl6 T) w9 hB).mono ?_
       rintro e w10 ⟨rfl, m, rfl⟩
       replace hR := hR.drewN m; replace hD := hD.drewN m; replace he := he.drewN m
       go_wp2_with fail
       refine (EntryOk_any (rlD T) _ hk).mono ?_
       rintro e w11 ⟨rfl, h1⟩
       replace hR := hR.ext h1; replace hD := hD.ext h1; replace he := he.next h1; clear h1 hrc hrf hc hf
       obtain ⟨hc, hf⟩ := hD.rules
       obtain ⟨hrc, hrf⟩ := hR.rules
       go_wp2_with fail
       have hz := hR.put 0 EntryD.zero.cells EntryD.zero.cells.toArray (by decide) rfl
       have hx := ext_setCells (W := w) (g := w.heap.size) (Nat.le_refl _) EntryD.zero.cells 0 w11 he
       refine ret_row_tmp rfl rfl hz Tryz.underlying130 rfl (by kernel_rfl) rfl ⟨?_, hx⟩
       rw [Hi.out]; rfl
     · have Hi := hU (show rlImpl T = true by simp [rlImpl, b1, b2, b3])
       unfold rlKind at b1
       go_wp2_with fail
       refine (done_any _ T (rl6 T) w9 hB).mono ?_
       rintro e w10 ⟨rfl, m, rfl⟩
       replace hR := hR.drewN m; replace hD := hD.drewN m; replace he := he.drewN m
       go_wp2_with fail
       refine (EntryOk_any (rlD T) _ hk).mono ?_
       rintro e w11 ⟨rfl, h1⟩
       replace hR := hR.ext h1; replace hD := hD.ext h1; replace he := he.next h1; clear h1 hrc hrf hc hf
       obtain ⟨hc, hf⟩ := hD.rules
       obtain ⟨hrc, hrf⟩ := hR.rules
       go_wp2_with fail
       have hz := hR.put 0 (rlD T).cells (rlD T).cells.toArray (by simp [EntryD.cells]) rfl
       have hx := ext_setCells (W := w) (g := w.heap.size) (Nat.le_refl _) (rlD T).cells 0 w11 he
       refine ret_row_tmp rfl rfl hz Tryz.underlying130 rfl (by kernel_rfl) rfl ⟨?_, hx⟩
       rw [Hi.out]; rfl
end Go.Proofs.YthnpdoadmglipaaGreat

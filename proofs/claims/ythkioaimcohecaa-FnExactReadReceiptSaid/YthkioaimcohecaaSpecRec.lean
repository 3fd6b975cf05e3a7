/-
  The reference's ReadReceipt: walk. No condition.
-/
import Derived.Test.YthkioaimcohecaaReadRec
namespace Go.Proofs.Ythkioaimcohecaa
open Go.RowKit
set_option linter.unusedVariables false

def rrSpec (T : ByteArray) : Bool := !(rr4 T).bad && (receiptOk (rrD T) && (receiptText (rrD T)).toList == T.toList)

set_option maxHeartbeats 2000000 in
set_option maxRecDepth 100000 in
theorem specReadReceipt_any (T : ByteArray) (w : World) (hT : T.size ≤ 1099511627776) :
    Calls Try.prog 35 #[.string T] w fun e w' => e = rrRes (rrSpec T) (rrD T) ∧ Ext w w' := by
  go_enter Try.func35, Try.ntmps35
  go_wp2_with fail
  have hR := (Blk.new w 52 #[.string ⟨#[]⟩, .string ⟨#[]⟩, .int .i64 0]).alloc (.cells #[.string T, .int .i64 0, .bool false] 108)
  have hB : Blk _ _ 108 (rdCells T rr0) := Blk.new (w.alloc (.cells #[.string ⟨#[]⟩, .string ⟨#[]⟩, .int .i64 0] 52)) 108 #[.string T, .int .i64 0, .bool false]
  have he := Ext.new (Ext.new (Below.refl w.heap.size w) (.cells #[.string ⟨#[]⟩, .string ⟨#[]⟩, .int .i64 0] 52)) (.cells #[.string T, .int .i64 0, .bool false] 108)
  simp only [World.size_alloc] at hB
  refine (l03Take_any _ T rr0 1 _ hB (Nat.zero_le _) hT (by decide)).mono ?_
  rintro e w1 ⟨rfl, hB, hx⟩
  replace hR := hR.extBut hx (by omega); replace he := he.nextBut (by omega) hx; clear hx
  go_wp2_with fail
  have hgl := hB.lt
  have hD := Blk.new w1 52 #[.string ⟨#[]⟩, .string ⟨#[]⟩, .int .i64 0]
  replace hR := hR.alloc (.cells #[.string ⟨#[]⟩, .string ⟨#[]⟩, .int .i64 0] 52)
  replace hB := hB.alloc (.cells #[.string ⟨#[]⟩, .string ⟨#[]⟩, .int .i64 0] 52)
  replace he := he.new (.cells #[.string ⟨#[]⟩, .string ⟨#[]⟩, .int .i64 0] 52)
  refine (l03ReadShort_any _ T (rr1 T) _ hB (rdNext_pos _ _ _ (Nat.zero_le _)) hT).mono ?_
  rintro e w2 ⟨rfl, hB, hx⟩
  replace hR := hR.extBut hx (by omega); replace hD := hD.extBut hx (by omega); replace he := he.nextBut (by omega) hx; clear hx
  obtain ⟨g2, hg2⟩ : ∃ g2, g2 = w1.heap.size := ⟨_, rfl⟩
  rw [← hg2] at hD hgl
  rw [← hg2]
  have hq1 : ¬ w.heap.size = g2 := by omega
  have hq2 : ¬ w.heap.size + 1 = g2 := by omega
  clear hg2
  obtain ⟨hc, hf⟩ := hD.rules
  go_wp2_with fail
  clear hc hf
  replace hR := hR.far (p := ⟨g2, 0, none⟩) hq1 (.string (rdShort T (rr1 T) 1))
  replace hB := hB.far (p := ⟨g2, 0, none⟩) hq2 (.string (rdShort T (rr1 T) 1))
  replace hD := hD.set_ 0 (.string (rdShort T (rr1 T) 1))
  replace he : Ext w _ := Below.setCell he (p := ⟨g2, 0, none⟩) (by show w.heap.size ≤ g2; omega) (.string (rdShort T (rr1 T) 1))
  refine (l03ReadShort_any _ T (rr2 T) _ hB (rdShortNext_pos _ _ _ (rdNext_pos _ _ _ (Nat.zero_le _))) hT).mono ?_
  rintro e w3 ⟨rfl, hB, hx⟩
  replace hR := hR.extBut hx (by omega); replace hD := hD.extBut hx (by omega); replace he := he.nextBut (by omega) hx; clear hx
  obtain ⟨hc, hf⟩ := hD.rules
  go_wp2_with fail
  clear hc hf
  replace hR := hR.far (p := ⟨g2, 1, none⟩) hq1 (.string (rdShort T (rr2 T) 1))
  replace hB := hB.far (p := ⟨g2, 1, none⟩) hq2 (.string (rdShort T (rr2 T) 1))
  replace hD := hD.set_ 1 (.string (rdShort T (rr2 T) 1))
  replace he : Ext w _ := Below.setCell he (p := ⟨g2, 1, none⟩) (by show w.heap.size ≤ g2; omega) (.string (rdShort T (rr2 T) 1))
  refine (l03Read_any _ T (rr3 T) 2 _ hB (rdShortNext_pos _ _ _ (rdShortNext_pos _ _ _ (rdNext_pos _ _ _ (Nat.zero_le _)))) hT (by decide)).mono ?_
  rintro e w4 ⟨rfl, hB, hx⟩
  replace hR := hR.extBut hx (by omega); replace hD := hD.extBut hx (by omega); replace he := he.nextBut (by omega) hx; clear hx
  obtain ⟨hc, hf⟩ := hD.rules
  go_upto_region 7 with fail
  clear hc hf
  replace hR := hR.far (p := ⟨g2, 2, none⟩) hq1 (.int .i64 (beNum (rdTake T (rr3 T) 2) : Int))
  replace hB := hB.far (p := ⟨g2, 2, none⟩) hq2 (.int .i64 (beNum (rdTake T (rr3 T) 2) : Int))
  replace hD := hD.set_ 2 (.int .i64 (beNum (rdTake T (rr3 T) 2) : Int))
  replace he : Ext w _ := Below.setCell he (p := ⟨g2, 2, none⟩) (by show w.heap.size ≤ g2; omega) (.int .i64 (beNum (rdTake T (rr3 T) 2) : Int))
  replace hD : Blk _ g2 52 #[.string (rrD T).reader, .string (rrD T).topic, .int .i64 (rrD T).index] := hD
  replace hB : Blk _ _ 108 (rdCells T (rr4 T)) := hB
  generalize w4.setCell ⟨g2, 2, none⟩ (.int .i64 (beNum (rdTake T (rr3 T) 2) : Int)) = w5 at *
  have hk := rrD_ok T hT
  obtain ⟨hc, hf⟩ := hD.rules
  go_wp2_with fail
  refine (specReceiptText_any (rrD T) _ hk).mono ?_
  rintro e w6 ⟨rfl, h1⟩
  replace hR := hR.ext h1; replace hD := hD.ext h1; replace hB := hB.ext h1; replace he := he.next h1; clear h1 hc hf
  obtain ⟨hc, hf⟩ := hD.rules
  obtain ⟨hrc, hrf⟩ := hR.rules
  obtain ⟨hbc, hbf⟩ := hB.rules
  have c2 : w6.cell? ⟨w.heap.size + 1, 2, none⟩ = some (.bool (rr4 T).bad) := hbc 2
  clear hbc
  cases b1 : (rr4 T).bad
  · cases b2 : receiptOk (rrD T)
    · have Hi := Lib.hid (show rrSpec T = false by simp [rrSpec, b1, b2])
      rw [b1] at c2
      go_wp2_with fail
      have hz := hR.put 0 ReceiptD.zero.cells ReceiptD.zero.cells.toArray (by decide) rfl
      have hx := ext_setCells (W := w) (g := w.heap.size) (Nat.le_refl _) ReceiptD.zero.cells 0 w6 he
      refine ret_row_tmp rfl rfl hz Try.underlying52 rfl (by kernel_rfl) rfl ⟨?_, hx⟩
      rw [Hi.out]; rfl
    · cases b3 : ((receiptText (rrD T)).toList == T.toList)
      · have Hi := Lib.hid (show rrSpec T = false by simp only [rrSpec, b1, b2, b3]; rfl)
        rw [b1] at c2
        go_wp2_with fail
        have hz := hR.put 0 ReceiptD.zero.cells ReceiptD.zero.cells.toArray (by decide) rfl
        have hx := ext_setCells (W := w) (g := w.heap.size) (Nat.le_refl _) ReceiptD.zero.cells 0 w6 he
        refine ret_row_tmp rfl rfl hz Try.underlying52 rfl (by kernel_rfl) rfl ⟨?_, hx⟩
        rw [Hi.out]; rfl
      · have Hi := Lib.hid (show rrSpec T = true by simp only [rrSpec, b1, b2, b3]; rfl)
        rw [b1] at c2
        go_wp2_with fail
        have hz := hR.put 0 (rrD T).cells (rrD T).cells.toArray (by simp [ReceiptD.cells]) rfl
        have hx := ext_setCells (W := w) (g := w.heap.size) (Nat.le_refl _) (rrD T).cells 0 w6 he
        refine ret_row_tmp rfl rfl hz Try.underlying52 rfl (by kernel_rfl) rfl ⟨?_, hx⟩
        rw [Hi.out]; rfl
  · have Hi := Lib.hid (show rrSpec T = false by simp [rrSpec, b1])
    rw [b1] at c2
    go_wp2_with fail
    have hz := hR.put 0 ReceiptD.zero.cells ReceiptD.zero.cells.toArray (by decide) rfl
    have hx := ext_setCells (W := w) (g := w.heap.size) (Nat.le_refl _) ReceiptD.zero.cells 0 w6 he
    refine ret_row_tmp rfl rfl hz Try.underlying52 rfl (by kernel_rfl) rfl ⟨?_, hx⟩
    rw [Hi.out]; rfl
end Go.Proofs.Ythkioaimcohecaa

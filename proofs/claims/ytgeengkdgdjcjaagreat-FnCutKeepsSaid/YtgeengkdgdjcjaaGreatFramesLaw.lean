/-
  ReadLf; LeafBk; FramesLaw: No condition.
-/
import Derived.Test.YtgeengkdgdjcjaaGreatReadRec
import Derived.Test.YtgeengkdgdjcjaaGreatClientNw
import Derived.Test.YtgeengkdgdjcjaaGreatFrames
namespace Go.Proofs.YtgeengkdgdjcjaaGreat
set_option maxHeartbeats 4000000
set_option maxRecDepth 100000
set_option linter.unusedSimpArgs false
open Go.RowKit
set_option linter.unusedVariables false
def rl0 : Rd := ⟨0, false⟩
def rl1 (T : ByteArray) : Rd := rdNext T rl0 1
def rl2 (T : ByteArray) : Rd := rdShortNext T (rl1 T) 1
def rl3 (T : ByteArray) : Rd := rdNext T (rl2 T) 2
def rl4 (T : ByteArray) : Rd := rdNext T (rl3 T) 4
def rl5 (T : ByteArray) : Rd := rdShortNext T (rl4 T) 1
def rl6 (T : ByteArray) : Rd := rdShortNext T (rl5 T) 2
theorem rl0_pos (T : ByteArray) : rl0.pos ≤ T.size := Nat.zero_le _
theorem rl1_pos (T : ByteArray) : (rl1 T).pos ≤ T.size := rdNext_pos _ _ _ (rl0_pos T)
theorem rl2_pos (T : ByteArray) : (rl2 T).pos ≤ T.size := rdShortNext_pos _ _ _ (rl1_pos T)
theorem rl3_pos (T : ByteArray) : (rl3 T).pos ≤ T.size := rdNext_pos _ _ _ (rl2_pos T)
theorem rl4_pos (T : ByteArray) : (rl4 T).pos ≤ T.size := rdNext_pos _ _ _ (rl3_pos T)
theorem rl5_pos (T : ByteArray) : (rl5 T).pos ≤ T.size := rdShortNext_pos _ _ _ (rl4_pos T)
def rlD (T : ByteArray) : EntryD := ⟨rdShort T (rl1 T) 1, (beNum (rdTake T (rl2 T) 2) : Int), (beNum (rdTake T (rl3 T) 4) : Int), rdShort T (rl4 T) 1, rdShort T (rl5 T) 2⟩
def rlKind (T : ByteArray) : Bool := (rdTake T rl0 1).toList == [69]
def rlImpl (T : ByteArray) : Bool := rlKind T && rdDone T (rl6 T) && entryOk (rlD T)
def rlOut (ok : Bool) (d : EntryD) : EntryD := if ok then d else ⟨⟨#[]⟩, 0, 0, ⟨#[]⟩, ⟨#[]⟩⟩
def rlRes (ok : Bool) (d : EntryD) : Ending := .returned (.tuple #[.agg (rlOut ok d).cells.toArray, .bool ok])
def EntryD.zero : EntryD := ⟨⟨#[]⟩, 0, 0, ⟨#[]⟩, ⟨#[]⟩⟩
theorem rlD_ok (T : ByteArray) (hT : T.size ≤ 1099511627776) : (rlD T).Ok := by
 have h1 := rdTake_le T (rdNext T (rl1 T) 1) (beNum (rdTake T (rl1 T) 1))
 have h4 := rdTake_le T (rdNext T (rl4 T) 1) (beNum (rdTake T (rl4 T) 1))
 have h5 := rdTake_le T (rdNext T (rl5 T) 2) (beNum (rdTake T (rl5 T) 2))
 have h2 := beNum_le (rdTake T (rl2 T) 2) (Nat.le_trans (rdTake_size _ _ _) (by decide))
 have h3 := beNum_le (rdTake T (rl3 T) 4) (rdTake_size _ _ _)
 refine ⟨?_, ?_, ?_, ?_, ?_⟩
 · unfold maxLen; show (rdTake T (rdNext T (rl1 T) 1) (beNum (rdTake T (rl1 T) 1))).size ≤ _; omega
 · show (Lit.int .i64 (beNum (rdTake T (rl2 T) 2) : Int)).wf = true
   simp [Lit.wf, IntKind.min, IntKind.max, IntKind.signed, IntKind.bits]
   omega
 · show (Lit.int .i64 (beNum (rdTake T (rl3 T) 4) : Int)).wf = true
   simp [Lit.wf, IntKind.min, IntKind.max, IntKind.signed, IntKind.bits]
   omega
 · unfold maxLen; show (rdTake T (rdNext T (rl4 T) 1) (beNum (rdTake T (rl4 T) 1))).size ≤ _; omega
 · unfold maxLen; show (rdTake T (rdNext T (rl5 T) 2) (beNum (rdTake T (rl5 T) 2))).size ≤ _; omega
theorem ReadLeaf_any (T : ByteArray) (w : World) (hT : T.size ≤ 1099511627776) :
 Calls Tryz.prog 119 #[.string T] w fun e w' => e = rlRes (rlImpl T) (rlD T) ∧ Ext w w' := by
 go_enter Tryz.func119, Tryz.ntmps119
 go_wp2_with fail
 have hR := (Blk.new w 56 #[.string ⟨#[]⟩, .int .i64 0, .int .i64 0, .string ⟨#[]⟩, .string ⟨#[]⟩]).alloc (.cells #[.string T, .int .i64 0, .bool false] 248)
 have hB : Blk _ _ 248 (rdCells T rl0) := Blk.new (w.alloc (.cells #[.string ⟨#[]⟩, .int .i64 0, .int .i64 0, .string ⟨#[]⟩, .string ⟨#[]⟩] 56)) 248 #[.string T, .int .i64 0, .bool false]
 have he := Ext.new (Ext.new (Below.refl w.heap.size w) (.cells #[.string ⟨#[]⟩, .int .i64 0, .int .i64 0, .string ⟨#[]⟩, .string ⟨#[]⟩] 56)) (.cells #[.string T, .int .i64 0, .bool false] 248)
 simp only [World.size_alloc] at hB
 refine (bytes_any _ T rl0 1 _ hB (rl0_pos T) hT (by decide)).mono ?_
 rintro e w1 ⟨rfl, hB, hx⟩
 replace hR := hR.extBut hx (by omega); replace he := he.nextBut (by omega) hx; clear hx
 go_wp2_with fail
 refine (short_any _ T (rl1 T) 1 _ hB (rl1_pos T) hT (by decide)).mono ?_
 rintro e w2 ⟨rfl, hB, hx⟩
 replace hR := hR.extBut hx (by omega); replace he := he.nextBut (by omega) hx; clear hx
 go_wp2_with fail
 have hgl := hB.lt
 have hD := Blk.new w2 56 #[.string (rdShort T (rl1 T) 1), .int .i64 0, .int .i64 0, .string ⟨#[]⟩, .string ⟨#[]⟩]
 replace hR := hR.alloc (.cells #[.string (rdShort T (rl1 T) 1), .int .i64 0, .int .i64 0, .string ⟨#[]⟩, .string ⟨#[]⟩] 56)
 replace hB := hB.alloc (.cells #[.string (rdShort T (rl1 T) 1), .int .i64 0, .int .i64 0, .string ⟨#[]⟩, .string ⟨#[]⟩] 56)
 replace he := he.new (.cells #[.string (rdShort T (rl1 T) 1), .int .i64 0, .int .i64 0, .string ⟨#[]⟩, .string ⟨#[]⟩] 56)
 refine (number_any _ T (rl2 T) 2 _ hB (rl2_pos T) hT (by decide)).mono ?_
 rintro e w3 ⟨rfl, hB, hx⟩
 replace hR := hR.extBut hx (by omega); replace hD := hD.extBut hx (by omega); replace he := he.nextBut (by omega) hx; clear hx
 obtain ⟨g2, hg2⟩ : ∃ g2, g2 = w2.heap.size := ⟨_, rfl⟩
 rw [← hg2] at hD hgl
 rw [← hg2]
 have hq1 : ¬ w.heap.size = g2 := by omega
 have hq2 : ¬ w.heap.size + 1 = g2 := by omega
 clear hg2
 obtain ⟨hc, hf⟩ := hD.rules
 go_wp2_with fail
 clear hc hf
 replace hR := hR.far (p := ⟨g2, 1, none⟩) hq1 (.int .i64 (beNum (rdTake T (rl2 T) 2) : Int))
 replace hB := hB.far (p := ⟨g2, 1, none⟩) hq2 (.int .i64 (beNum (rdTake T (rl2 T) 2) : Int))
 replace hD := hD.set_ 1 (.int .i64 (beNum (rdTake T (rl2 T) 2) : Int))
 replace he : Ext w _ := Below.setCell he (p := ⟨g2, 1, none⟩) (by show w.heap.size ≤ g2; omega) (.int .i64 (beNum (rdTake T (rl2 T) 2) : Int))
 refine (number_any _ T (rl3 T) 4 _ hB (rl3_pos T) hT (by decide)).mono ?_
 rintro e w4 ⟨rfl, hB, hx⟩
 replace hR := hR.extBut hx (by omega); replace hD := hD.extBut hx (by omega); replace he := he.nextBut (by omega) hx; clear hx
 obtain ⟨hc, hf⟩ := hD.rules
 go_wp2_with fail
 clear hc hf
 replace hR := hR.far (p := ⟨g2, 2, none⟩) hq1 (.int .i64 (beNum (rdTake T (rl3 T) 4) : Int))
 replace hB := hB.far (p := ⟨g2, 2, none⟩) hq2 (.int .i64 (beNum (rdTake T (rl3 T) 4) : Int))
 replace hD := hD.set_ 2 (.int .i64 (beNum (rdTake T (rl3 T) 4) : Int))
 replace he : Ext w _ := Below.setCell he (p := ⟨g2, 2, none⟩) (by show w.heap.size ≤ g2; omega) (.int .i64 (beNum (rdTake T (rl3 T) 4) : Int))
 refine (short_any _ T (rl4 T) 1 _ hB (rl4_pos T) hT (by decide)).mono ?_
 rintro e w5 ⟨rfl, hB, hx⟩
 replace hR := hR.extBut hx (by omega); replace hD := hD.extBut hx (by omega); replace he := he.nextBut (by omega) hx; clear hx
 obtain ⟨hc, hf⟩ := hD.rules
 go_wp2_with fail
 clear hc hf
 replace hR := hR.far (p := ⟨g2, 3, none⟩) hq1 (.string (rdShort T (rl4 T) 1))
 replace hB := hB.far (p := ⟨g2, 3, none⟩) hq2 (.string (rdShort T (rl4 T) 1))
 replace hD := hD.set_ 3 (.string (rdShort T (rl4 T) 1))
 replace he : Ext w _ := Below.setCell he (p := ⟨g2, 3, none⟩) (by show w.heap.size ≤ g2; omega) (.string (rdShort T (rl4 T) 1))
 refine (short_any _ T (rl5 T) 2 _ hB (rl5_pos T) hT (by decide)).mono ?_
 rintro e w6 ⟨rfl, hB, hx⟩
 replace hR := hR.extBut hx (by omega); replace hD := hD.extBut hx (by omega); replace he := he.nextBut (by omega) hx; clear hx
 obtain ⟨hc, hf⟩ := hD.rules
 go_upto_region 8 with fail
 clear hc hf
 replace hR := hR.far (p := ⟨g2, 4, none⟩) hq1 (.string (rdShort T (rl5 T) 2))
 replace hB := hB.far (p := ⟨g2, 4, none⟩) hq2 (.string (rdShort T (rl5 T) 2))
 replace hD := hD.set_ 4 (.string (rdShort T (rl5 T) 2))
 replace he : Ext w _ := Below.setCell he (p := ⟨g2, 4, none⟩) (by show w.heap.size ≤ g2; omega) (.string (rdShort T (rl5 T) 2))
 replace hD : Blk _ g2 56 #[.string (rlD T).topic, .int .i64 (rlD T).index, .int .i64 (rlD T).time, .string (rlD T).key, .string (rlD T).body] := hD
 replace hB : Blk _ _ 248 (rdCells T (rl6 T)) := hB
 generalize w6.setCell ⟨g2, 4, none⟩ (.string (rdShort T (rl5 T) 2)) = w9 at *
 have hk := rlD_ok T hT
 obtain ⟨hc, hf⟩ := hD.rules
 obtain ⟨hrc, hrf⟩ := hR.rules
 cases b1 : rlKind T
 · have Hi := hU (show rlImpl T = false by simp [rlImpl, b1])
   unfold rlKind at b1
   go_wp2_with fail
   have hz := hR.put 0 EntryD.zero.cells EntryD.zero.cells.toArray (by decide) rfl
   have hx := ext_setCells (W := w) (g := w.heap.size) (Nat.le_refl _) EntryD.zero.cells 0 w9 he
   refine ret_row_tmp rfl rfl hz Tryz.underlying56 rfl (by kernel_rfl) rfl ⟨?_, hx⟩
   rw [Hi.out]; rfl
 · cases b2 : rdDone T (rl6 T)
   · have Hi := hU (show rlImpl T = false by simp [rlImpl, b1, b2])
     unfold rlKind at b1
     go_wp2_with fail
     refine (done_any _ T (rl6 T) w9 hB).mono ?_
     rintro e w10 ⟨rfl, m, rfl⟩
     replace hR := hR.drewN m; replace he := he.drewN m
     go_wp2_with fail
     have hz := hR.put 0 EntryD.zero.cells EntryD.zero.cells.toArray (by decide) rfl
     have hx := ext_setCells (W := w) (g := w.heap.size) (Nat.le_refl _) EntryD.zero.cells 0 (w9.drewN m) he
     refine ret_row_tmp rfl rfl hz Tryz.underlying56 rfl (by kernel_rfl) rfl ⟨?_, hx⟩
     rw [Hi.out]; rfl
   · cases b3 : entryOk (rlD T)
     · have Hi := hU (show rlImpl T = false by simp [rlImpl, b1, b2, b3])
       unfold rlKind at b1
       go_wp2_with fail
       refine (done_any _ T (rl6 T) w9 hB).mono ?_
       rintro e w10 ⟨rfl, m, rfl⟩
       replace hR := hR.drewN m; replace hD := hD.drewN m; replace he := he.drewN m
       go_wp2_with fail
       refine (EntryOk_any (rlD T) _ hk).mono ?_
       rintro e w11 ⟨rfl, h1⟩
       replace hR := hR.ext h1; replace hD := hD.ext h1; replace he := he.next h1; clear h1 hrc hrf hc hf
       obtain ⟨hc, hf⟩ := hD.rules
       obtain ⟨hrc, hrf⟩ := hR.rules
       go_wp2_with fail
       have hz := hR.put 0 EntryD.zero.cells EntryD.zero.cells.toArray (by decide) rfl
       have hx := ext_setCells (W := w) (g := w.heap.size) (Nat.le_refl _) EntryD.zero.cells 0 w11 he
       refine ret_row_tmp rfl rfl hz Tryz.underlying56 rfl (by kernel_rfl) rfl ⟨?_, hx⟩
       rw [Hi.out]; rfl
     · have Hi := hU (show rlImpl T = true by simp [rlImpl, b1, b2, b3])
       unfold rlKind at b1
       go_wp2_with fail
       refine (done_any _ T (rl6 T) w9 hB).mono ?_
       rintro e w10 ⟨rfl, m, rfl⟩
       replace hR := hR.drewN m; replace hD := hD.drewN m; replace he := he.drewN m
       go_wp2_with fail
       refine (EntryOk_any (rlD T) _ hk).mono ?_
       rintro e w11 ⟨rfl, h1⟩
       replace hR := hR.ext h1; replace hD := hD.ext h1; replace he := he.next h1; clear h1 hrc hrf hc hf
       obtain ⟨hc, hf⟩ := hD.rules
       obtain ⟨hrc, hrf⟩ := hR.rules
       go_wp2_with fail
       have hz := hR.put 0 (rlD T).cells (rlD T).cells.toArray (by simp [EntryD.cells]) rfl
       have hx := ext_setCells (W := w) (g := w.heap.size) (Nat.le_refl _) (rlD T).cells 0 w11 he
       refine ret_row_tmp rfl rfl hz Tryz.underlying56 rfl (by kernel_rfl) rfl ⟨?_, hx⟩
       rw [Hi.out]; rfl
def Rest (T : ByteArray) (r : Rd) (Y : ByteArray) : Prop := r.bad = false ∧ ∃ X, T = X ++ Y ∧ X.size = r.pos
theorem Rest.start (T : ByteArray) : Rest T ⟨0, false⟩ T := ⟨rfl, ⟨#[]⟩, by rw [show (⟨#[]⟩ : ByteArray) ++ T = T from ByteArray.empty_append], rfl⟩
theorem part_mid (X a Y : ByteArray) : (X ++ (a ++ Y)).extract X.size (X.size + a.size) = a := by
 have h1 : (X ++ (a ++ Y)).extract X.size (X.size + a.size) = (X ++ (a ++ Y)).extract (X.size + 0) (X.size + a.size) := rfl
 apply ByteArray.ext
 rw [← Array.toList_inj]
 simp [ByteArray.data_extract, ByteArray.data_append, List.drop_append, List.take_append, ← ByteArray.size_data]
theorem Rest.take {T : ByteArray} {r : Rd} {a Y : ByteArray} {n : Nat} (h : Rest T r (a ++ Y)) (hn : a.size = n) : rdTake T r n = a ∧ Rest T (rdNext T r n) Y := by
 obtain ⟨hb, X, rfl, hX⟩ := h
 subst hn
 have hf : rdFails (X ++ (a ++ Y)) r a.size = false := by
  simp only [rdFails, hb, Bool.false_or, decide_eq_false_iff_not, ByteArray.size_append]
  omega
 refine ⟨?_, ?_, X ++ a, ?_, ?_⟩
 · rw [rdTake, hf, ← hX]; exact part_mid X a Y
 · rw [rdNext, hf]; rfl
 · rw [ByteArray.append_assoc]
 · rw [rdNext, hf, ByteArray.size_append, hX]; rfl
theorem Rest.short {T : ByteArray} {r : Rd} {b a Y : ByteArray} {n : Nat} (h : Rest T r (b ++ (a ++ Y))) (hn : b.size = n) (hb : beNum b = a.size) : rdShort T r n = a ∧ Rest T (rdShortNext T r n) Y := by
 obtain ⟨h1, h2⟩ := h.take hn
 rw [rdShort, rdShortNext, h1, hb]
 exact h2.take rfl
theorem Rest.done {T : ByteArray} {r : Rd} (h : Rest T r ⟨#[]⟩) : rdDone T r = true := by
 obtain ⟨hb, X, rfl, hX⟩ := h
 rw [rdDone, hb, show X ++ (⟨#[]⟩ : ByteArray) = X from ByteArray.append_empty, hX]
 simp
theorem beNum_oct (k : Nat) (h : k < 256) : beNum (octB (k : Int)) = k := by
 have : (UInt8.ofNat k).toNat = k := by simp [UInt8.toNat_ofNat']; omega
 simp [beNum, octB, ofInts, this]
 omega
theorem beNum_oct2 (k : Nat) (h : k < 65536) : beNum (octB ((k : Int) / 256) ++ octB (k : Int)) = k := by
 have e : (k : Int) / 256 = ((k / 256 : Nat) : Int) := by omega
 rw [e]
 simp [beNum, octB, ofInts, ByteArray.data_append, UInt8.toNat_ofNat']
 omega
theorem beNum_four (k : Nat) (h : k < 4294967296) : beNum (lowB k 4) = k := by
 show beNum (octB ((k / 256 ^ 3 : Nat) : Int) ++ (octB ((k / 256 ^ 2 : Nat) : Int) ++ (octB ((k / 256 ^ 1 : Nat) : Int) ++ (octB ((k / 256 ^ 0 : Nat) : Int) ++ ⟨#[]⟩)))) = k
 simp [beNum, octB, ofInts, ByteArray.data_append, UInt8.toNat_ofNat']
 omega
theorem two_size (a b : Int) : (octB a ++ octB b).size = 2 := by rw [ByteArray.size_append]; rfl
theorem nat_of {x : Int} (h : 0 ≤ x) : ∃ k : Nat, x = (k : Int) := ⟨x.toNat, by omega⟩
theorem receipt_back {d : ReceiptD} (h : receiptOk d = true) : rrImpl (receiptText d) = true ∧ rrD (receiptText d) = d := by
 obtain ⟨a, t, i⟩ := d
 have hk := h
 simp only [receiptOk, Bool.and_eq_true] at h
 obtain ⟨⟨h1, h2⟩, h3⟩ := h
 have s1 := nameOk_size h1
 have s2 := nameOk_size h2
 obtain ⟨i0, i1⟩ := inR_true h3
 obtain ⟨k, rfl⟩ := nat_of i0
 have R0 := Rest.start (receiptText ⟨a, t, (k : Int)⟩)
 have e : receiptText ⟨a, t, (k : Int)⟩ = ⟨#[82]⟩ ++ (octB a.size ++ (a ++ (octB t.size ++ (t ++ ((octB ((k : Int) / 256) ++ octB (k : Int)) ++ ⟨#[]⟩))))) := by
  rw [receiptText, hk, if_pos rfl, receiptT, show ∀ X : ByteArray, X ++ (⟨#[]⟩ : ByteArray) = X from fun X => ByteArray.append_empty]
  simp only [ByteArray.append_assoc]
 generalize receiptText ⟨a, t, (k : Int)⟩ = T at *
 rw [e] at R0
 obtain ⟨p0, R1⟩ := R0.take (n := 1) rfl
 rw [← e] at p0 R1
 obtain ⟨p1, R2⟩ := R1.short (n := 1) rfl (beNum_oct _ (by omega))
 obtain ⟨p2, R3⟩ := R2.short (n := 1) rfl (beNum_oct _ (by omega))
 obtain ⟨p3, R4⟩ := R3.take (n := 2) (two_size _ _)
 have hD : rrD T = ⟨a, t, (k : Int)⟩ := by
  show (⟨rdShort T (rr1 T) 1, rdShort T (rr2 T) 1, (beNum (rdTake T (rr3 T) 2) : Int)⟩ : ReceiptD) = _
  rw [show rdShort T (rr1 T) 1 = a from p1, show rdShort T (rr2 T) 1 = t from p2, show rdTake T (rr3 T) 2 = _ from p3, beNum_oct2 _ (by omega)]
 refine ⟨?_, hD⟩
 rw [rrImpl, hD, hk, rrKind, show rdTake T rr0 1 = _ from p0, show rdDone T (rr4 T) = true from R4.done, kind_of]
 simp
theorem leaf_back {d : EntryD} (h : entryOk d = true) : rlImpl (leafText d) = true ∧ rlD (leafText d) = d := by
 obtain ⟨t, i, m, y, b⟩ := d
 have hk := h
 simp only [entryOk, partsB, Bool.and_eq_true, decide_eq_true_eq] at h
 obtain ⟨⟨h1, h3⟩, ⟨h4, h5⟩, h6⟩ := h
 have s1 := nameOk_size h1
 obtain ⟨i0, i1⟩ := inR_true h3
 obtain ⟨m0, m1⟩ := inR_true h4
 obtain ⟨k, rfl⟩ := nat_of i0
 obtain ⟨n, rfl⟩ := nat_of m0
 (try simp only at s1 h5 h6 i1 m1)
 have R0 := Rest.start (leafText ⟨t, (k : Int), (n : Int), y, b⟩)
 have e : leafText ⟨t, (k : Int), (n : Int), y, b⟩ = ⟨#[69]⟩ ++ (octB t.size ++ (t ++ ((octB ((k : Int) / 256) ++ octB (k : Int)) ++ (lowB n 4 ++ (octB y.size ++ (y ++ ((octB ((b.size : Int) / 256) ++ octB (b.size : Int)) ++ (b ++ ⟨#[]⟩)))))))) := by
  rw [leafText, hk, if_pos rfl, leafT, show ∀ X : ByteArray, X ++ (⟨#[]⟩ : ByteArray) = X from fun X => ByteArray.append_empty]
  simp only [ByteArray.append_assoc, Int.toNat_natCast]
 generalize leafText ⟨t, (k : Int), (n : Int), y, b⟩ = T at *
 rw [e] at R0
 obtain ⟨p0, R1⟩ := R0.take (n := 1) rfl
 rw [← e] at p0 R1
 obtain ⟨p1, R2⟩ := R1.short (n := 1) rfl (beNum_oct _ (by omega))
 obtain ⟨p2, R3⟩ := R2.take (n := 2) (two_size _ _)
 obtain ⟨p3, R4⟩ := R3.take (n := 4) rfl
 obtain ⟨p4, R5⟩ := R4.short (n := 1) rfl (beNum_oct _ (by omega))
 obtain ⟨p5, R6⟩ := R5.short (n := 2) (two_size _ _) (beNum_oct2 _ (by omega))
 have hD : rlD T = ⟨t, (k : Int), (n : Int), y, b⟩ := by
  show (⟨rdShort T (rl1 T) 1, (beNum (rdTake T (rl2 T) 2) : Int), (beNum (rdTake T (rl3 T) 4) : Int), rdShort T (rl4 T) 1, rdShort T (rl5 T) 2⟩ : EntryD) = _
  rw [show rdShort T (rl1 T) 1 = t from p1, show rdTake T (rl2 T) 2 = _ from p2, show rdTake T (rl3 T) 4 = _ from p3, show rdShort T (rl4 T) 1 = y from p4, show rdShort T (rl5 T) 2 = b from p5, beNum_oct2 _ (by omega), beNum_four _ (by omega)]
 refine ⟨?_, hD⟩
 rw [rlImpl, hD, hk, rlKind, show rdTake T rl0 1 = _ from p0, show rdDone T (rl6 T) = true from R6.done, kind_of]
 simp
def fits1 (T : ByteArray) : Bool := inR T.size 1 1000
def framesT : List ByteArray → ByteArray
 | [] => ⟨#[]⟩
 | T :: l => frameB T ++ framesT l
theorem framesT_append : ∀ (a b : List ByteArray), framesT (a ++ b) = framesT a ++ framesT b
 | [], b => by simp [framesT]; exact ByteArray.empty_append.symm
 | T :: a, b => by rw [List.cons_append, framesT, framesT, framesT_append a b, ByteArray.append_assoc]
theorem frameB_size {T : ByteArray} (h : fits1 T = true) : (frameB T).size = T.size + 6 := by
 have := dig4_size h
 have := lowB_size T.size 2
 rw [frameB, ByteArray.size_append, ByteArray.size_append]; omega
theorem fits1_le {T : ByteArray} (h : fits1 T = true) : 1 ≤ T.size ∧ T.size ≤ 1000 := by
 obtain ⟨h0, h1⟩ := inR_true h
 omega
theorem beNum_low2 {n : Nat} (h : n < 65536) : beNum (lowB n 2) = n := by rw [lowB_two]; exact beNum_oct2 n h
theorem frame_at {U T Y : ByteArray} {p : Nat} (h : Rest U (fa0 p) (frameB T ++ Y)) (ht : fits1 T = true) :
 faOk U p = true ∧ faText U p = T ∧ Rest U (fa3 U p) Y ∧ (fa3 U p).pos = p + (frameB T).size := by
 obtain ⟨t0, t1⟩ := fits1_le ht
 have e : frameB T ++ Y = lowB T.size 2 ++ (digest 4 4 T ++ (T ++ Y)) := by rw [frameB, ByteArray.append_assoc, ByteArray.append_assoc]
 rw [e] at h
 obtain ⟨h1, h2⟩ := h.take (n := 2) (lowB_size _ _)
 obtain ⟨h3, h4⟩ := h2.take (n := 4) (dig4_size ht)
 have hN : faN U p = T.size := by rw [faN, h1, beNum_low2 (by omega)]
 obtain ⟨h5, h6⟩ := h4.take (n := faN U p) hN.symm
 have hT : faText U p = T := h5
 have hS : faSum U p = digest 4 4 T := h3
 have hb : (fa3 U p).bad = false := h6.1
 have hok : faOk U p = true := by
  simp only [faOk, hb, hT, hS, hN, Bool.and_eq_true, Bool.not_false, true_and]
  exact ⟨ht, beq_self_eq_true _⟩
 exact ⟨hok, hT, h6, by rw [(faOk_pos hok).1, hN, frameB_size ht]; omega⟩
theorem Rest.size {U Y : ByteArray} {r : Rd} (h : Rest U r Y) : U.size = r.pos + Y.size := by
 obtain ⟨_, X, rfl, hX⟩ := h
 rw [ByteArray.size_append, hX]
theorem cut_two {A B : ByteArray} {j : Nat} : (A ++ B).extract 0 j = A.extract 0 j ++ B.extract 0 (j - A.size) := by
 rw [ByteArray.extract_append]
 simp
theorem extract_all {A : ByteArray} {j : Nat} (h : A.size ≤ j) : A.extract 0 j = A := by
 apply ByteArray.ext
 rw [← Array.toList_inj]
 simp [ByteArray.data_extract]
 rw [List.take_of_length_le]
 simpa [← ByteArray.size_data] using h
theorem faOk_short2 {T : ByteArray} {p : Nat} (h : ¬ p + 6 + faN T p ≤ T.size) : faOk T p = false := by
 cases b : faOk T p
 · rfl
 · exact absurd (fa_bad b) h
theorem frame_cut {U T : ByteArray} {p j : Nat} (h : Rest U (fa0 p) ((frameB T).extract 0 j)) (ht : fits1 T = true) (hj : j < (frameB T).size) : faOk U p = false := by
 obtain ⟨t0, t1⟩ := fits1_le ht
 have hfs := frameB_size ht
 have hs := h.size
 rw [ByteArray.size_extract] at hs
 have hp : (fa0 p).pos = p := rfl
 rw [hp] at hs
 refine faOk_short2 ?_
 intro hle
 have hj2 : 2 ≤ j := by omega
 have e : (frameB T).extract 0 j = lowB T.size 2 ++ (digest 4 4 T ++ T).extract 0 (j - 2) := by
  rw [frameB, ByteArray.append_assoc, cut_two, extract_all (by rw [lowB_size]; exact hj2), lowB_size]
 rw [e] at h
 obtain ⟨h1, _⟩ := h.take (n := 2) (lowB_size _ _)
 have hN : faN U p = T.size := by rw [faN, h1, beNum_low2 (by omega)]
 omega
theorem unf_cut (U : ByteArray) : ∀ (l : List ByteArray) (f p j : Nat), (∀ T ∈ l, fits1 T = true) → l.length ≤ f → j ≤ (framesT l).size → Rest U (fa0 p) ((framesT l).extract 0 j) →
 ∃ m, m ≤ l.length ∧ unfGo U f p = (l.take m, p + (framesT (l.take m)).size) ∧ (framesT (l.take m)).size ≤ j ∧ ∀ (hm : m < l.length), j < (framesT (l.take m)).size + (frameB l[m]).size
 | [], f, p, j, _, _, hj, h => by
   have hs := h.size
   simp only [framesT, ByteArray.size_extract] at hs
   have hp : (fa0 p).pos = p := rfl
   have hz : (framesT []).size = 0 := rfl
   have hj0 : j = 0 := by omega
   have hk : faOk U p = false := faOk_short2 (by
    have : (⟨#[]⟩ : ByteArray).size = 0 := rfl
    omega)
   refine ⟨0, Nat.le_refl _, ?_, Nat.zero_le _, fun hm => absurd hm (Nat.lt_irrefl 0)⟩
   cases f with
   | zero => rfl
   | succ f => rw [unfGo, if_neg (by rw [hk]; decide)]; rfl
 | T :: l, f, p, j, ht, hf, hj, h => by
   have t1 := ht T (by simp)
   obtain ⟨f, rfl⟩ : ∃ f', f = f' + 1 := ⟨f - 1, by simp at hf; omega⟩
   by_cases hF : (frameB T).size ≤ j
   · rw [framesT, cut_two, extract_all hF] at h
     obtain ⟨a1, a2, a3, a4⟩ := frame_at h t1
     have hr : Rest U (fa0 (p + (frameB T).size)) ((framesT l).extract 0 (j - (frameB T).size)) := by
      have e3 : fa3 U p = fa0 (p + (frameB T).size) := by
       have hb := a3.1
       cases hfa : fa3 U p with
       | mk pos bad => rw [hfa] at a4 hb; simp only at a4 hb; rw [a4, hb]; rfl
      rw [← e3]; exact a3
     obtain ⟨m, hm, h1, h2, h3⟩ := unf_cut U l f (p + (frameB T).size) (j - (frameB T).size) (fun x hx => ht x (by simp [hx])) (by simp at hf; exact hf) (by rw [framesT, ByteArray.size_append] at hj; omega) hr
     refine ⟨m + 1, by simp; omega, ?_, ?_, fun hlt => ?_⟩
     · rw [unfGo, if_pos a1, a2, a4, h1, List.take_succ_cons, framesT, ByteArray.size_append]
       simp only [Prod.mk.injEq, true_and]; omega
     · rw [List.take_succ_cons, framesT, ByteArray.size_append]; omega
     · have := h3 (by simp at hlt; exact hlt)
       rw [List.take_succ_cons, framesT, ByteArray.size_append, List.getElem_cons_succ]; omega
   · rw [framesT, cut_two, show j - (frameB T).size = 0 by omega] at h
     have hk : faOk U p = false := frame_cut (j := j) (by
      have e : (framesT l).extract 0 0 = ⟨#[]⟩ := by apply ByteArray.ext; simp [ByteArray.data_extract]
      rw [e, append_nil] at h; exact h) t1 (by omega)
     exact ⟨0, Nat.zero_le _, by rw [unfGo, if_neg (by rw [hk]; decide)]; rfl, Nat.zero_le _, fun _ => by show j < 0 + (frameB T).size; omega⟩
def framesOk (l : List ByteArray) : Bool := decide (l.length ≤ 600) && l.all fits1 && decide ((framesT l).size ≤ 300000)
def framesOut (l : List ByteArray) : ByteArray := if framesOk l then framesT l else ⟨#[]⟩
theorem framesOk_all {l : List ByteArray} (h : framesOk l = true) : l.length ≤ 600 ∧ (∀ T ∈ l, fits1 T = true) ∧ (framesT l).size ≤ 300000 := by
 simp only [framesOk, Bool.and_eq_true, decide_eq_true_eq, List.all_eq_true] at h
 exact ⟨h.1.1, h.1.2, h.2⟩
theorem framesT_take_le {l : List ByteArray} (k : Nat) : (framesT (l.take k)).size ≤ (framesT l).size := by
 have : framesT l = framesT (l.take k) ++ framesT (l.drop k) := by rw [← framesT_append, List.take_append_drop]
 rw [this, ByteArray.size_append]; omega
theorem framesT_next {l : List ByteArray} {k : Nat} {T : ByteArray} (h : l[k]? = some T) : framesT (l.take (k + 1)) = framesT (l.take k) ++ frameB T := by
 obtain ⟨hk, rfl⟩ := List.getElem?_eq_some_iff.1 h
 rw [List.take_succ_eq_append_getElem hk, framesT_append]
 simp only [framesT]
 rw [append_nil]
theorem framesOk_no1 {l : List ByteArray} {k : Nat} {T : ByteArray} (h : l[k]? = some T) (hf : fits1 T = false) : framesOk l = false := by
 cases hb : framesOk l
 · rfl
 · have := (framesOk_all hb).2.1 T (List.mem_of_getElem? h)
   rw [hf] at this; cases this
theorem framesOk_no2 {l : List ByteArray} {k : Nat} {T : ByteArray} (h : l[k]? = some T) (hf : 300000 < (framesT (l.take k)).size + (frameB T).size) : framesOk l = false := by
 cases hb : framesOk l
 · rfl
 · have h1 := (framesOk_all hb).2.2
   have h2 := framesT_take_le (l := l) (k + 1)
   rw [framesT_next h, ByteArray.size_append] at h2
   omega
theorem framesOk_yes {l : List ByteArray} (h0 : l.length ≤ 600) (h1 : ∀ T ∈ l, fits1 T = true) (h2 : (framesT l).size ≤ 300000) : framesOk l = true := by
 simp only [framesOk, Bool.and_eq_true, decide_eq_true_eq, List.all_eq_true]
 exact ⟨⟨h0, h1⟩, h2⟩
theorem unf_of_cut {l : List ByteArray} (h : framesOk l = true) {k : Nat} (hk : k ≤ (framesT l).size) :
 ∃ m, m ≤ l.length ∧ unf ((framesT l).extract 0 k) = (l.take m, (framesT (l.take m)).size) ∧ (framesT (l.take m)).size ≤ k ∧ ∀ (hm : m < l.length), k < (framesT (l.take m)).size + (frameB l[m]).size := by
 obtain ⟨h0, h1, h2⟩ := framesOk_all h
 obtain ⟨m, a1, a2, a3, a4⟩ := unf_cut ((framesT l).extract 0 k) l 600 0 k h1 h0 hk (Rest.start _)
 refine ⟨m, a1, ?_, a3, a4⟩
 rw [unf, if_pos (by rw [ByteArray.size_extract]; omega), a2, Nat.zero_add]
theorem unf_whole {l : List ByteArray} (h : framesOk l = true) : unf (framesT l) = (l, (framesT l).size) := by
 obtain ⟨m, h1, h2, h3, h4⟩ := unf_of_cut h (Nat.le_refl _)
 rw [extract_all (Nat.le_refl _)] at h2
 have hm : m = l.length := by
  rcases Nat.lt_or_ge m l.length with hlt | hge
  · have h5 := h4 hlt
    have h6 := framesT_take_le (l := l) (m + 1)
    rw [framesT_next (List.getElem?_eq_getElem hlt), ByteArray.size_append] at h6
    omega
  · omega
 rw [hm, List.take_length] at h2
 exact h2
end Go.Proofs.YtgeengkdgdjcjaaGreat

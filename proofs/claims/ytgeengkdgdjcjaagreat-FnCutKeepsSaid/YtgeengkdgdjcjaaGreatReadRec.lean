/-
  Unfr; UnfrLaw; ReadRec: No condition.
-/
import Derived.Test.YtgeengkdgdjcjaaGreatFrames
import Derived.Test.YtgeengkdgdjcjaaGreatMixIn
import Derived.Test.YtgeengkdgdjcjaaGreatLeaf
import Derived.Test.YtgeengkdgdjcjaaGreatClientNw
namespace Go.Proofs.YtgeengkdgdjcjaaGreat
set_option maxHeartbeats 2000000
set_option maxRecDepth 100000
set_option linter.unusedSimpArgs false
open Go.RowKit
set_option linter.unusedVariables false
theorem info_str : (Tryz.prog.info? 9).map (fun i => (i.zero, i.size, i.bytes)) = some (some (.string ⟨#[]⟩), 1, 16) := by kernel_rfl
def svals (l : List ByteArray) : List Value := l.map .string
theorem svals_snoc (l : List ByteArray) (x : ByteArray) : svals l ++ [.string x] = svals (l ++ [x]) := by simp [svals]
def unfGo (T : ByteArray) : Nat → Nat → List ByteArray × Nat
 | 0, p => ([], p)
 | f + 1, p => if faOk T p then (faText T p :: (unfGo T f (fa3 T p).pos).1, (unfGo T f (fa3 T p).pos).2) else ([], p)
def unf (T : ByteArray) : List ByteArray × Nat := if T.size ≤ 300000 then unfGo T 600 0 else ([], 0)
theorem faOk_pos {T : ByteArray} {p : Nat} (h : faOk T p = true) : (fa3 T p).pos = p + 6 + faN T p ∧ (fa3 T p).pos ≤ T.size ∧ 1 ≤ faN T p ∧ faN T p ≤ 1000 := by
 simp only [faOk, Bool.and_eq_true, Bool.not_eq_true'] at h
 obtain ⟨⟨h1, h2⟩, h3⟩ := h
 obtain ⟨h4, h5⟩ := inR_true h2
 obtain ⟨a1, a2, a3, _⟩ := rdNext_ok h1
 obtain ⟨b1, b2, b3, _⟩ := rdNext_ok a1
 obtain ⟨c1, c2, c3, _⟩ := rdNext_ok b1
 have e1 : (fa1 T p).pos = p + 2 := c2
 have e2 : (fa2 T p).pos = (fa1 T p).pos + 4 := b2
 have e3 : (fa3 T p).pos = (fa2 T p).pos + faN T p := a2
 omega
structure UInv (T : ByteArray) (fin : List ByteArray × Nat) (l : List ByteArray) (p : Nat) : Prop where
 len : l.length ≤ 600
 pos : p ≤ T.size
 texts : l ++ (unfGo T (600 - l.length) p).1 = fin.1
 at_ : (unfGo T (600 - l.length) p).2 = fin.2
theorem UInv.done {T : ByteArray} {fin : List ByteArray × Nat} {l : List ByteArray} {p : Nat} (h : UInv T fin l p) (hl : 600 ≤ l.length) : l = fin.1 ∧ p = fin.2 := by
 have h1 := h.texts; have h2 := h.at_
 rw [show 600 - l.length = 0 by omega] at h1 h2
 exact ⟨by simpa [unfGo] using h1, h2⟩
theorem UInv.stop {T : ByteArray} {fin : List ByteArray × Nat} {l : List ByteArray} {p : Nat} (h : UInv T fin l p) (hl : l.length < 600) (hk : faOk T p = false) : l = fin.1 ∧ p = fin.2 := by
 have h1 := h.texts; have h2 := h.at_
 rw [show 600 - l.length = (599 - l.length) + 1 by omega] at h1 h2
 simp only [unfGo, hk] at h1 h2
 exact ⟨by simpa using h1, h2⟩
theorem UInv.step {T : ByteArray} {fin : List ByteArray × Nat} {l : List ByteArray} {p : Nat} (h : UInv T fin l p) (hl : l.length < 600) (hk : faOk T p = true) : UInv T fin (l ++ [faText T p]) (fa3 T p).pos := by
 have h1 := h.texts; have h2 := h.at_
 rw [show 600 - l.length = (599 - l.length) + 1 by omega] at h1 h2
 simp only [unfGo, hk, if_true] at h1 h2
 have e : 600 - (l ++ [faText T p]).length = 599 - l.length := by rw [List.length_append, List.length_singleton]; omega
 refine ⟨by simp; omega, (faOk_pos hk).2.1, ?_, ?_⟩
 · rw [e, List.append_assoc]; exact h1
 · rw [e]; exact h2
theorem ownsRow_nil (w : World) (B e size : Nat) : w.ownsRow B e size (.slice none 0 0) 0 [] := ⟨by simp, .inl ⟨rfl, rfl⟩⟩
def OwnS (W w : World) (v : Value) (l : List ByteArray) : Prop := w.ownsRow W.heap.size 9 1 v l.length (svals l)
theorem implUnframe_any (T : ByteArray) (w : World) (hT : T.size ≤ 1099511627776) :
 Calls Tryz.prog 55 #[.string T] w fun e w' => ∃ v, e = .returned (.tuple #[v, .int .i64 ((unf T).2 : Int)]) ∧ OwnS w w' v (unf T).1 ∧ Ext w w' := by
 by_cases hbig : 300000 < T.size
 · have E := hU (show unf T = ([], 0) by rw [unf, if_neg (by omega)])
   go_enter Tryz.func55, Tryz.ntmps55
   go_wp2_with fail
   go_ret2
   exact ⟨_, by rw [E.out]; rfl, by rw [E.out]; exact ownsRow_nil _ _ _ _, Below.refl _ _⟩
 obtain ⟨fin, hfin⟩ : ∃ fin, fin = unf T := ⟨_, rfl⟩
 have Hi : UInv T fin [] 0 := by rw [hfin, unf, if_pos (by omega)]; exact ⟨by simp, Nat.zero_le _, rfl, rfl⟩
 rw [← hfin]
 clear hfin
 obtain ⟨i0, hi, hz0, hz1, hz2⟩ := info_parts info_str
 go_enter Tryz.func55, Tryz.ntmps55
 go_wp2_with fail
 have H0 := hU (ownsRow_nil w w.heap.size 9 1)
 have HE := hU (Below.refl w.heap.size w)
 obtain ⟨B, hB⟩ : ∃ B, B = w.heap.size := ⟨_, rfl⟩
 rw [← hB] at H0
 have Hb : w.heap.size ≤ B := by omega
 have HB := hU hB
 clear hB
 go_loopw [4, 5] (fun v x wr => ∃ (l : List ByteArray) (p : Nat), UInv T fin l p ∧ x = .int .i64 (p : Int) ∧ wr.ownsRow B 9 1 v l.length (svals l) ∧ Ext w wr) (fun _ x _ => T.size - (intOf x).toNat)
 case atStart => exact ⟨[], 0, Hi, rfl, H0.out, HE.out⟩
 case round =>
  clear H0 HE Hi
  obtain ⟨l, p, hu, rfl, hown, he⟩ := hrel
  obtain ⟨A, c, rfl, hnc⟩ := ownsRow_form hown
  have KO := hU hown
  clear hown
  have hul := hu.len
  have hup := hu.pos
  by_cases hlt : l.length < 600
  · go_wp2_with fail
    refine (frameAt_any T p _ hT hup).mono ?_
    rintro e w1 ⟨he1, h1⟩
    rw [faRes] at he1
    replace he := he.next h1
    have KO1 := hU (ownsRow_ext KO.out h1)
    clear h1 KO
    cases b : faOk T p
    · rw [b] at he1
      subst he1
      obtain ⟨e1, e2⟩ := hu.stop hlt b
      have HF : Hid (OwnS w w1 (.slice A l.length c) fin.1) := hU (by have := KO1.out; rw [HB.out, e1] at this; unfold OwnS; rw [e1]; exact this)
      have HP := hU e2
      clear e1 e2 hu KO1
      go_wp2_with fail
      go_ret2
      exact ⟨_, by rw [HP.out]; rfl, HF.out, he⟩
    · rw [b] at he1
      subst he1
      obtain ⟨y, hy⟩ : ∃ y, y = faText T p := ⟨_, rfl⟩
      obtain ⟨q, hq⟩ : ∃ q, q = (fa3 T p).pos := ⟨_, rfl⟩
      have Hu := hU (hu.step hlt b)
      have hpq := faOk_pos b
      rw [← hq] at hpq Hu
      rw [← hy] at Hu
      simp only [if_true]
      rw [← hy, ← hq]
      clear hy hq hu
      have hB2 : B ≤ w1.heap.size := by have := he.size; have := HB.out; omega
      go_wp2_with (at_builtin; refine wpList_append_own _ rfl _ _ 29 rfl B 9 i0 (.string ⟨#[]⟩) 1 16 Tryz.underlying29 hi hz0 hz1 hz2 rfl (by decide) _ _ _ rfl (KO1.out.alloc _) ⟨w1.heap.size, 0, none⟩ 1 1 [.string y] rfl rfl ?c1 ?c2 ?c3 ?c4 ?c5 ?_)
      case c1 => exact one_at _ _ _
      case c2 => exact one_cell rfl
      case c3 => unfold maxLen; omega
      case c4 => omega
      case c5 => simp; omega
      intro v' w2 hown' hgrow _
      have he1 := Ext.ownGrown (Ext.new he _) (KO1.out.alloc _) hgrow Hb
      rw [svals_snoc] at hown'
      have KO' := hU hown'
      clear hown' hgrow KO1 he
      go_wp2_with fail
      go_roundw
      case rel => exact ⟨l ++ [y], q, Hu.out, congrArg (Value.int .i64) (by omega), by have := KO'.out; simpa using this, he1⟩
      case measure => simp [intOf]; omega
  · obtain ⟨e1, e2⟩ := hu.done (by omega)
    have HF : Hid (OwnS w wr (.slice A l.length c) fin.1) := hU (by have := KO.out; rw [HB.out, e1] at this; unfold OwnS; rw [e1]; exact this)
    have HP := hU e2
    clear e1 e2 hu KO
    go_wp2_with fail
    go_ret2
    exact ⟨_, by rw [HP.out]; rfl, HF.out, he⟩
theorem fa_bad {T : ByteArray} {p : Nat} (h : faOk T p = true) : p + 6 + faN T p ≤ T.size := by
 obtain ⟨h1, h2, _⟩ := faOk_pos h
 omega
theorem fa_some {T : ByteArray} {p : Nat} (h : p + 6 ≤ T.size) : fa1 T p = ⟨p + 2, false⟩ ∧ fa2 T p = ⟨p + 6, false⟩ ∧ rdTake T (fa0 p) 2 = T.extract p (p + 2) ∧ faSum T p = T.extract (p + 2) (p + 6) := by
 have f0 : rdFails T (fa0 p) 2 = false := by
  show (false || decide ((T.size : Int) - (p : Int) < ((2 : Nat) : Int))) = false
  rw [Bool.false_or, decide_eq_false_iff_not]; omega
 have e1 : fa1 T p = ⟨p + 2, false⟩ := by simp [fa1, rdNext, f0]; rfl
 have f1 : rdFails T ⟨p + 2, false⟩ 4 = false := by simp [rdFails]; omega
 refine ⟨e1, ?_, by simp [rdTake, f0]; rfl, ?_⟩
 · rw [fa2, e1]; simp [rdNext, f1]
 · rw [faSum, e1]; simp [rdTake, f1]
theorem fa_all {T : ByteArray} {p : Nat} (h : p + 6 + faN T p ≤ T.size) : (fa3 T p).bad = false ∧ faText T p = T.extract (p + 6) (p + 6 + faN T p) := by
 obtain ⟨e1, e2, e3, e4⟩ := fa_some (T := T) (p := p) (by omega)
 have f2 : rdFails T ⟨p + 6, false⟩ (faN T p) = false := by simp [rdFails]; omega
 refine ⟨?_, ?_⟩
 · rw [fa3, e2]; simp [rdNext, f2]
 · rw [faText, e2]; simp [rdTake, f2]
theorem beNum_two (b : ByteArray) (h : b.size = 2) : beNum b = 256 * (b[0]'(by omega)).toNat + (b[1]'(by omega)).toNat := by
 obtain ⟨⟨l⟩⟩ := b
 match l, h with
 | [c, d], _ => simp [beNum]; rfl
theorem faN_two {T : ByteArray} {p : Nat} (h : p + 6 ≤ T.size) : faN T p = 256 * (T[p]'(by omega)).toNat + (T[p + 1]'(by omega)).toNat := by
 have hs : (T.extract p (p + 2)).size = 2 := by rw [ByteArray.size_extract]; omega
 rw [faN, (fa_some h).2.2.1, beNum_two _ hs, ByteArray.getElem_extract, ByteArray.getElem_extract]
 rfl
theorem fa_test {T : ByteArray} {p : Nat} (h : p + 6 + faN T p ≤ T.size) : faOk T p = (inR (faN T p) 1 1000 && ((frameOut (faText T p)).toList == (T.extract p (p + 6 + faN T p)).toList)) := by
 obtain ⟨e1, e2, e3, e4⟩ := fa_some (T := T) (p := p) (by omega)
 obtain ⟨b1, b2⟩ := fa_all h
 have hs : (faText T p).size = faN T p := by rw [b2, ByteArray.size_extract]; omega
 simp only [faOk, b1, Bool.not_false, Bool.true_and]
 cases hin : inR (faN T p) 1 1000
 · rfl
 · simp only [Bool.true_and]
   rw [bytes_beq, bytes_beq, frameOut, hs, hin, if_pos rfl]
   have hd : (digest 4 4 (faText T p)).size = 4 := dig4_size (by rw [hs]; exact hin)
   have h2 : lowB (faText T p).size 2 = T.extract p (p + 2) := by
    rw [lowB_two, hs]
    have := two_of (rdTake T (fa0 p) 2) (by rw [e3, ByteArray.size_extract]; omega)
    rw [← e3]; exact this
   have h3 : T.extract p (p + 6 + faN T p) = T.extract p (p + 2) ++ (faSum T p) ++ faText T p := by
    rw [e4, b2, ← ByteArray.extract_eq_extract_append_extract (p + 2) (by omega) (by omega), ← ByteArray.extract_eq_extract_append_extract (p + 6) (by omega) (by omega)]
   rw [frameB, h2, h3, decide_eq_decide]
   have hsum : (faSum T p).size = 4 := by rw [e4, ByteArray.size_extract]; omega
   constructor
   · intro he; rw [he]
   · intro he
     have h5 := ByteArray.append_inj_left he (by simp [ByteArray.size_append, hd, hsum])
     have h6 := congrArg (fun x : ByteArray => x.data.toList) h5
     simp only [ByteArray.data_append, Array.toList_append, List.append_cancel_left_eq] at h6
     exact ByteArray.ext (Array.toList_inj.1 h6)
theorem rdShortNext_pos (T : ByteArray) (r : Rd) (n : Nat) (h : r.pos ≤ T.size) : (rdShortNext T r n).pos ≤ T.size := rdNext_pos T _ _ (rdNext_pos T r n h)
def rr0 : Rd := ⟨0, false⟩
def rr1 (T : ByteArray) : Rd := rdNext T rr0 1
def rr2 (T : ByteArray) : Rd := rdShortNext T (rr1 T) 1
def rr3 (T : ByteArray) : Rd := rdShortNext T (rr2 T) 1
def rr4 (T : ByteArray) : Rd := rdNext T (rr3 T) 2
def rrD (T : ByteArray) : ReceiptD := ⟨rdShort T (rr1 T) 1, rdShort T (rr2 T) 1, (beNum (rdTake T (rr3 T) 2) : Int)⟩
def rrKind (T : ByteArray) : Bool := (rdTake T rr0 1).toList == [82]
def rrImpl (T : ByteArray) : Bool := rrKind T && rdDone T (rr4 T) && receiptOk (rrD T)
def rrRes (ok : Bool) (d : ReceiptD) : Ending := .returned (.tuple #[.agg (if ok then d else ⟨⟨#[]⟩, ⟨#[]⟩, 0⟩ : ReceiptD).cells.toArray, .bool ok])
def ReceiptD.zero : ReceiptD := ⟨⟨#[]⟩, ⟨#[]⟩, 0⟩
theorem rdTake_le (T : ByteArray) (r : Rd) (n : Nat) : (rdTake T r n).size ≤ T.size := by
 unfold rdTake
 split
 · exact Nat.zero_le _
 · rw [ByteArray.size_extract]; omega
theorem rrD_ok (T : ByteArray) (hT : T.size ≤ 1099511627776) : (rrD T).Ok := by
 have h1 := rdTake_le T (rdNext T (rr1 T) 1) (beNum (rdTake T (rr1 T) 1))
 have h2 := rdTake_le T (rdNext T (rr2 T) 1) (beNum (rdTake T (rr2 T) 1))
 have h3 := beNum_le (rdTake T (rr3 T) 2) (Nat.le_trans (rdTake_size _ _ _) (by decide))
 refine ⟨?_, ?_, ?_⟩
 · unfold maxLen; show (rdTake T (rdNext T (rr1 T) 1) (beNum (rdTake T (rr1 T) 1))).size ≤ _; omega
 · unfold maxLen; show (rdTake T (rdNext T (rr2 T) 1) (beNum (rdTake T (rr2 T) 1))).size ≤ _; omega
 · show (Lit.int .i64 (beNum (rdTake T (rr3 T) 2) : Int)).wf = true
   simp [Lit.wf, IntKind.min, IntKind.max, IntKind.signed, IntKind.bits]
   omega
theorem ReadReceipt_any (T : ByteArray) (w : World) (hT : T.size ≤ 1099511627776) :
 Calls Tryz.prog 121 #[.string T] w fun e w' => e = rrRes (rrImpl T) (rrD T) ∧ Ext w w' := by
 go_enter Tryz.func121, Tryz.ntmps121
 go_wp2_with fail
 have hR := (Blk.new w 58 #[.string ⟨#[]⟩, .string ⟨#[]⟩, .int .i64 0]).alloc (.cells #[.string T, .int .i64 0, .bool false] 248)
 have hB : Blk _ _ 248 (rdCells T rr0) := Blk.new (w.alloc (.cells #[.string ⟨#[]⟩, .string ⟨#[]⟩, .int .i64 0] 58)) 248 #[.string T, .int .i64 0, .bool false]
 have he := Ext.new (Ext.new (Below.refl w.heap.size w) (.cells #[.string ⟨#[]⟩, .string ⟨#[]⟩, .int .i64 0] 58)) (.cells #[.string T, .int .i64 0, .bool false] 248)
 simp only [World.size_alloc] at hB
 refine (bytes_any _ T rr0 1 _ hB (Nat.zero_le _) hT (by decide)).mono ?_
 rintro e w1 ⟨rfl, hB, hx⟩
 replace hR := hR.extBut hx (by omega); replace he := he.nextBut (by omega) hx; clear hx
 go_wp2_with fail
 refine (short_any _ T (rr1 T) 1 _ hB (rdNext_pos _ _ _ (Nat.zero_le _)) hT (by decide)).mono ?_
 rintro e w2 ⟨rfl, hB, hx⟩
 replace hR := hR.extBut hx (by omega); replace he := he.nextBut (by omega) hx; clear hx
 go_wp2_with fail
 have hgl := hB.lt
 have hD := Blk.new w2 58 #[.string (rdShort T (rr1 T) 1), .string ⟨#[]⟩, .int .i64 0]
 replace hR := hR.alloc (.cells #[.string (rdShort T (rr1 T) 1), .string ⟨#[]⟩, .int .i64 0] 58)
 replace hB := hB.alloc (.cells #[.string (rdShort T (rr1 T) 1), .string ⟨#[]⟩, .int .i64 0] 58)
 replace he := he.new (.cells #[.string (rdShort T (rr1 T) 1), .string ⟨#[]⟩, .int .i64 0] 58)
 refine (short_any _ T (rr2 T) 1 _ hB (rdShortNext_pos _ _ _ (rdNext_pos _ _ _ (Nat.zero_le _))) hT (by decide)).mono ?_
 rintro e w3 ⟨rfl, hB, hx⟩
 replace hR := hR.extBut hx (by omega); replace hD := hD.extBut hx (by omega); replace he := he.nextBut (by omega) hx; clear hx
 obtain ⟨g2, hg2⟩ : ∃ g2, g2 = w2.heap.size := ⟨_, rfl⟩
 rw [← hg2] at hD hgl
 rw [← hg2]
 have hq1 : ¬ w.heap.size = g2 := by omega
 have hq2 : ¬ w.heap.size + 1 = g2 := by omega
 clear hg2
 obtain ⟨hc, hf⟩ := hD.rules
 go_wp2_with fail
 clear hc hf
 replace hR := hR.far (p := ⟨g2, 1, none⟩) hq1 (.string (rdShort T (rr2 T) 1))
 replace hB := hB.far (p := ⟨g2, 1, none⟩) hq2 (.string (rdShort T (rr2 T) 1))
 replace hD := hD.set_ 1 (.string (rdShort T (rr2 T) 1))
 replace he : Ext w _ := Below.setCell he (p := ⟨g2, 1, none⟩) (by show w.heap.size ≤ g2; omega) (.string (rdShort T (rr2 T) 1))
 refine (number_any _ T (rr3 T) 2 _ hB (rdShortNext_pos _ _ _ (rdShortNext_pos _ _ _ (rdNext_pos _ _ _ (Nat.zero_le _)))) hT (by decide)).mono ?_
 rintro e w4 ⟨rfl, hB, hx⟩
 replace hR := hR.extBut hx (by omega); replace hD := hD.extBut hx (by omega); replace he := he.nextBut (by omega) hx; clear hx
 obtain ⟨hc, hf⟩ := hD.rules
 go_upto_region 6 with fail
 clear hc hf
 replace hR := hR.far (p := ⟨g2, 2, none⟩) hq1 (.int .i64 (beNum (rdTake T (rr3 T) 2) : Int))
 replace hB := hB.far (p := ⟨g2, 2, none⟩) hq2 (.int .i64 (beNum (rdTake T (rr3 T) 2) : Int))
 replace hD := hD.set_ 2 (.int .i64 (beNum (rdTake T (rr3 T) 2) : Int))
 replace he : Ext w _ := Below.setCell he (p := ⟨g2, 2, none⟩) (by show w.heap.size ≤ g2; omega) (.int .i64 (beNum (rdTake T (rr3 T) 2) : Int))
 replace hD : Blk _ g2 58 #[.string (rrD T).reader, .string (rrD T).topic, .int .i64 (rrD T).index] := hD
 replace hB : Blk _ _ 248 (rdCells T (rr4 T)) := hB
 generalize w4.setCell ⟨g2, 2, none⟩ (.int .i64 (beNum (rdTake T (rr3 T) 2) : Int)) = w5 at *
 obtain ⟨hc, hf⟩ := hD.rules
 obtain ⟨hrc, hrf⟩ := hR.rules
 cases b1 : rrKind T
 · have Hi := hU (show rrImpl T = false by simp [rrImpl, b1])
   unfold rrKind at b1
   go_wp2_with fail
   have hz := hR.put 0 ReceiptD.zero.cells ReceiptD.zero.cells.toArray (by decide) rfl
   have hx := ext_setCells (W := w) (g := w.heap.size) (Nat.le_refl _) ReceiptD.zero.cells 0 w5 he
   refine ret_row_tmp rfl rfl hz Tryz.underlying58 rfl (by kernel_rfl) rfl ⟨?_, hx⟩
   rw [Hi.out]; rfl
 · cases b2 : rdDone T (rr4 T)
   · have Hi := hU (show rrImpl T = false by simp [rrImpl, b2])
     unfold rrKind at b1
     go_wp2_with fail
     refine (done_any _ T (rr4 T) w5 hB).mono ?_
     rintro e w6 ⟨rfl, m, rfl⟩
     replace hR := hR.drewN m; replace he := he.drewN m
     go_wp2_with fail
     have hz := hR.put 0 ReceiptD.zero.cells ReceiptD.zero.cells.toArray (by decide) rfl
     have hx := ext_setCells (W := w) (g := w.heap.size) (Nat.le_refl _) ReceiptD.zero.cells 0 (w5.drewN m) he
     refine ret_row_tmp rfl rfl hz Tryz.underlying58 rfl (by kernel_rfl) rfl ⟨?_, hx⟩
     rw [Hi.out]; rfl
   · have hk := rrD_ok T hT
     cases b3 : receiptOk (rrD T)
     · have Hi := hU (show rrImpl T = false by simp [rrImpl, b1, b2, b3])
       unfold rrKind at b1
       go_wp2_with fail
       refine (done_any _ T (rr4 T) w5 hB).mono ?_
       rintro e w6 ⟨rfl, m, rfl⟩
       replace hR := hR.drewN m; replace hD := hD.drewN m; replace he := he.drewN m
       go_wp2_with fail
       refine (ReceiptOk_any (rrD T) _ hk).mono ?_
       rintro e w7 ⟨rfl, h1⟩
       replace hR := hR.ext h1; replace hD := hD.ext h1; replace he := he.next h1; clear h1 hrc hrf hc hf
       obtain ⟨hc, hf⟩ := hD.rules
       obtain ⟨hrc, hrf⟩ := hR.rules
       go_wp2_with fail
       have hz := hR.put 0 ReceiptD.zero.cells ReceiptD.zero.cells.toArray (by decide) rfl
       have hx := ext_setCells (W := w) (g := w.heap.size) (Nat.le_refl _) ReceiptD.zero.cells 0 w7 he
       refine ret_row_tmp rfl rfl hz Tryz.underlying58 rfl (by kernel_rfl) rfl ⟨?_, hx⟩
       rw [Hi.out]; rfl
     · have Hi := hU (show rrImpl T = true by simp [rrImpl, b1, b2, b3])
       unfold rrKind at b1
       go_wp2_with fail
       refine (done_any _ T (rr4 T) w5 hB).mono ?_
       rintro e w6 ⟨rfl, m, rfl⟩
       replace hR := hR.drewN m; replace hD := hD.drewN m; replace he := he.drewN m
       go_wp2_with fail
       refine (ReceiptOk_any (rrD T) _ hk).mono ?_
       rintro e w7 ⟨rfl, h1⟩
       replace hR := hR.ext h1; replace hD := hD.ext h1; replace he := he.next h1; clear h1 hrc hrf hc hf
       obtain ⟨hc, hf⟩ := hD.rules
       obtain ⟨hrc, hrf⟩ := hR.rules
       go_wp2_with fail
       have hz := hR.put 0 (rrD T).cells (rrD T).cells.toArray (by simp [ReceiptD.cells]) rfl
       have hx := ext_setCells (W := w) (g := w.heap.size) (Nat.le_refl _) (rrD T).cells 0 w7 he
       refine ret_row_tmp rfl rfl hz Tryz.underlying58 rfl (by kernel_rfl) rfl ⟨?_, hx⟩
       rw [Hi.out]; rfl
end Go.Proofs.YtgeengkdgdjcjaaGreat

/-
  The reference's Digest: walk. No condition.
  Frame, frameAt: walks. No condition.
-/
import Derived.Test.YtkcjhfidgnbdiaaGreatSpecTop
import Derived.Test.YtkcjhfidgnbdiaaGreatReread
import Derived.Test.YtkcjhfidgnbdiaaGreatHashTop
namespace Go.Proofs.YtkcjhfidgnbdiaaGreat
set_option linter.unusedSimpArgs false
open Go.RowKit
set_option linter.unusedVariables false

theorem StartOf_no (tag : Int) (w : World) (h : inR tag 0 255 = false) :
    Calls Tryz.prog 294 #[.int .i64 tag] w fun e w' => e = .returned (.tuple #[.slice (some ⟨w.heap.size, 0, none⟩) 0 0, .bool false]) ∧ Ext w w' := by
  have He := Lib.hid (Ext.new (Below.refl w.heap.size w) (.cells #[] 197))
  go_enter Tryz.func294, Tryz.ntmps294
  go_wp2_with (go_at_call 174; refine (l01In_any _ _ _ _).mono ?_; rintro e w' ⟨rfl, rfl⟩)
  go_ret2
  exact ⟨rfl, He.out⟩
theorem PadOf_no (n : Int) (w : World) (h : inR n 0 4000 = false) :
    Calls Tryz.prog 295 #[.int .i64 n] w fun e w' => e = .returned (.tuple #[.string ⟨#[]⟩, .bool false]) ∧ Ext w w' := by
  go_enter Tryz.func295, Tryz.ntmps295
  go_wp2_with (go_at_call 174; refine (l01In_any _ _ _ _).mono ?_; rintro e w' ⟨rfl, rfl⟩)
  go_ret2
  exact ⟨rfl, Below.refl _ _⟩
/-- What StartOf hands back. -/
def StartRes (W w : World) (v : Value) (tag : Int) : Prop := inR tag 0 255 = true → OwnW W w v (startW tag)
theorem StartOf_all (tag : Int) (w : World) : Calls Tryz.prog 294 #[.int .i64 tag] w fun e w' => ∃ v, e = .returned (.tuple #[v, .bool (inR tag 0 255)]) ∧ StartRes w w' v tag ∧ Ext w w' := by
  cases h : inR tag 0 255
  · refine (StartOf_no tag w h).mono ?_
    rintro e w' ⟨rfl, he⟩
    exact ⟨_, rfl, (fun h' => by rw [h] at h'; cases h'), he⟩
  · refine (StartOf_any tag w h).mono ?_
    rintro e w' ⟨v, rfl, ho, he⟩
    exact ⟨v, rfl, fun _ => ho, he⟩
def padS (n : Nat) : ByteArray := if n ≤ 4000 then padT n else ⟨#[]⟩
theorem padS_size (n : Nat) : (padS n).size ≤ 73 := by
  unfold padS
  split
  · rw [padT_size]; unfold padZ; omega
  · exact Nat.zero_le _
theorem PadOf_all (n : Nat) (w : World) : Calls Tryz.prog 295 #[.int .i64 (n : Int)] w fun e w' => e = .returned (.tuple #[.string (padS n), .bool (decide (n ≤ 4000))]) ∧ Ext w w' := by
  by_cases h : n ≤ 4000
  · refine (PadOf_any n w h).mono ?_
    rintro e w' ⟨rfl, he⟩
    exact ⟨by rw [padS, if_pos h, decide_eq_true h], he⟩
  · refine (PadOf_no n w (by simp [inR]; omega)).mono ?_
    rintro e w' ⟨rfl, he⟩
    exact ⟨by rw [padS, if_neg h, decide_eq_false h], he⟩
set_option maxHeartbeats 1000000 in
set_option maxRecDepth 100000 in
theorem specDigest_any (width tag : Int) (T : ByteArray) (w : World) (hT : T.size ≤ maxLen) :
    Calls Tryz.prog 260 #[.int .i64 width, .int .i64 tag, .string T] w fun e w' => e = .returned (.tuple #[.string (digest width tag T), .bool (digestOk width tag T)]) ∧ Ext w w' := by
  unfold maxLen at hT
  cases hok : digestOk width tag T
  · have Ho := Lib.hid hok
    rw [digest_no hok]
    have h3 : ∃ b1 b2 b3, b1 = inR width 1 32 ∧ b2 = inR tag 0 255 ∧ b3 = decide (T.size ≤ 4000) ∧ (b1 && b2 && b3) = false := ⟨_, _, _, rfl, rfl, rfl, hok⟩
    obtain ⟨b1, b2, b3, e1, e2, e3, hb⟩ := h3
    clear hok
    cases b1 <;> cases b2 <;> cases b3
    all_goals first | (exfalso; simp at hb; done) | skip
    all_goals
      have hw := e1.symm
      have E2 := Lib.hid e2
      have E3 := Lib.hid e3
      clear e1 e2 e3 hb
      go_enter Tryz.func260, Tryz.ntmps260
      go_wp2_with fail
      refine (StartOf_all tag _).mono ?_
      rintro e w1 ⟨v, rfl, _, he⟩
      rw [← E2.out]
      go_wp2_with fail
      refine (PadOf_all _ _).mono ?_
      rintro e w2 ⟨rfl, h1⟩
      replace he := he.next h1; clear h1
      rw [← E3.out]
      go_wp2_with (go_at_call 199; refine (l02Width_any _ _).mono ?_; rintro e w' ⟨rfl, rfl⟩)
      go_ret2
      exact ⟨rfl, he⟩
  · have hok' := hok
    simp only [digestOk, Bool.and_eq_true, decide_eq_true_eq] at hok'
    obtain ⟨⟨b1, b2⟩, b3⟩ := hok'
    obtain ⟨lw0, lw1⟩ := inR_true b1
    rw [digest_yes hok]
    have Hf := Lib.hid (show digestT width.toNat tag T = (textW (mixT (T ++ padT T.size) (startW tag) ((T.size + (padT T.size).size) / 64))).extract 0 width.toNat by rw [digestT, ByteArray.size_append])
    have hps : (padT T.size).size ≤ 73 := by rw [padT_size]; unfold padZ; omega
    clear hok
    obtain ⟨fin, hfin⟩ : ∃ fin, fin = digestT width.toNat tag T := ⟨_, rfl⟩
    rw [← hfin]
    rw [← hfin] at Hf
    clear hfin
    go_enter Tryz.func260, Tryz.ntmps260
    go_wp2_with fail
    refine (StartOf_any tag _ b2).mono ?_
    rintro e w1 ⟨v, rfl, ho, he⟩
    have KS := Lib.hid (State8.of_own ho (startW_len tag))
    clear ho
    go_wp2_with fail
    refine (PadOf_any T.size _ b3).mono ?_
    rintro e w2 ⟨rfl, h1⟩
    replace he := he.next h1
    have KS2 : Hid (State8 w2 v (startW tag)) := by
      obtain ⟨A, c, hv, hr⟩ := KS.out
      exact Lib.hid ⟨A, c, hv, hr.ext h1⟩
    clear h1 KS
    go_wp2_with (go_at_call 199; refine (l02Width_any _ _).mono ?_; rintro e w' ⟨rfl, rfl⟩)
    refine (l02Mixed_any v (startW tag) (T ++ padT T.size) _ (startW_len tag) (startW_32 tag) KS2.out (by rw [ByteArray.size_append]; omega)).mono ?_
    rintro e w3 ⟨v', rfl, hs, h1⟩
    replace he := he.next h1
    obtain ⟨A, c, rfl, hr⟩ := hs
    rw [ByteArray.size_append] at hr
    have KR := Lib.hid hr
    clear h1 hr KS2
    go_wp2_with fail
    refine (l02First_any width A c _ _ KR.out (by rw [mixT_len, startW_len]) (mixT_32 _ (startW_32 tag) _) lw0 lw1).mono ?_
    rintro e w4 ⟨rfl, h1⟩
    replace he := he.next h1; clear h1
    rw [← Hf.out]
    go_wp2_with fail
    go_ret2
    exact ⟨rfl, he⟩
end Go.Proofs.YtkcjhfidgnbdiaaGreat
namespace Go.Proofs.YtkcjhfidgnbdiaaGreat
set_option linter.unusedSimpArgs false
open Go.RowKit
set_option linter.unusedVariables false

theorem dig4 {T : ByteArray} (h : inR T.size 1 1000 = true) : digestOk 4 4 T = true := by
  obtain ⟨h0, h1⟩ := inR_true h
  simp only [digestOk, Bool.and_eq_true, decide_eq_true_eq]
  exact ⟨⟨by decide, by decide⟩, by omega⟩
theorem dig4_size {T : ByteArray} (h : inR T.size 1 1000 = true) : (digest 4 4 T).size = 4 := digest_size (dig4 h)
def frameB (T : ByteArray) : ByteArray := lowB T.size 2 ++ digest 4 4 T ++ T
def frameOut (T : ByteArray) : ByteArray := if inR T.size 1 1000 then frameB T else ⟨#[]⟩
set_option maxHeartbeats 1000000 in
theorem specFrame_any (T : ByteArray) (w : World) (hT : T.size ≤ maxLen) : Calls Tryz.prog 189 #[.string T] w fun e w' => e = .returned (.tuple #[.string (frameOut T), .bool (inR T.size 1 1000)]) ∧ Ext w w' := by
  have HT := Lib.hid hT
  unfold maxLen at hT
  cases b1 : inR T.size 1 1000
  · have E := Lib.hid (show frameOut T = ⟨#[]⟩ by simp [frameOut, b1])
    go_enter Tryz.func189, Tryz.ntmps189
    go_wp2_with (go_at_call 174; refine (l01In_any _ _ _ _).mono ?_; rintro e w' ⟨rfl, rfl⟩)
    go_ret2
    exact ⟨by rw [E.out]; rfl, Below.refl _ _⟩
  · have E := Lib.hid (show frameOut T = frameB T by simp [frameOut, b1])
    obtain ⟨h0, h1⟩ := inR_true b1
    have d4 := dig4_size b1
    have l2 := lowB_size T.size 2
    have n1 : ¬ 9223372036854775807 < (lowB T.size 2).size + (digest 4 4 T).size := by omega
    have n2 : ¬ 9223372036854775807 < (lowB T.size 2).size + (digest 4 4 T).size + T.size := by omega
    have he := Below.refl w.heap.size w
    go_enter Tryz.func189, Tryz.ntmps189
    go_wp2_with (go_at_call 174; refine (l01In_any _ _ _ _).mono ?_; rintro e w' ⟨rfl, rfl⟩)
    refine (specDigest_any 4 4 T _ HT.out).mono ?_
    rintro e w1 ⟨rfl, hx⟩
    replace he : Ext w w1 := Ext.next he hx
    go_wp2_with fail
    refine (l03Number_any T.size 2 _ (by omega) (by decide)).mono ?_
    rintro e w2 ⟨rfl, hx⟩
    replace he : Ext w w2 := he.next hx
    go_wp2_with fail
    go_ret2
    exact ⟨by rw [E.out]; rfl, he⟩
def fa0 (p : Nat) : Rd := ⟨p, false⟩
def faN (T : ByteArray) (p : Nat) : Nat := beNum (rdTake T (fa0 p) 2)
def fa1 (T : ByteArray) (p : Nat) : Rd := rdNext T (fa0 p) 2
def faSum (T : ByteArray) (p : Nat) : ByteArray := rdTake T (fa1 T p) 4
def fa2 (T : ByteArray) (p : Nat) : Rd := rdNext T (fa1 T p) 4
def faText (T : ByteArray) (p : Nat) : ByteArray := rdTake T (fa2 T p) (faN T p)
def fa3 (T : ByteArray) (p : Nat) : Rd := rdNext T (fa2 T p) (faN T p)
def faOk (T : ByteArray) (p : Nat) : Bool := !(fa3 T p).bad && inR (faN T p) 1 1000 && ((digest 4 4 (faText T p)).toList == (faSum T p).toList)
def faRes (T : ByteArray) (p : Nat) : Ending := .returned (.tuple #[.string (if faOk T p then faText T p else ⟨#[]⟩), .int .i64 (if faOk T p then ((fa3 T p).pos : Int) else 0), .bool (faOk T p)])
theorem faText_size (T : ByteArray) (p : Nat) : (faText T p).size ≤ T.size := by
  unfold faText rdTake
  split
  · exact Nat.zero_le _
  · rw [ByteArray.size_extract]; omega
set_option maxHeartbeats 2000000 in
set_option maxRecDepth 100000 in
theorem frameAt_any (T : ByteArray) (p : Nat) (w : World) (hT : T.size ≤ 1099511627776) (hp : p ≤ T.size) : Calls Tryz.prog 205 #[.string T, .int .i64 (p : Int)] w fun e w' => e = faRes T p ∧ Ext w w' := by
  have p1 := rdNext_pos T (fa0 p) 2 hp
  have p2 := rdNext_pos T (fa1 T p) 4 p1
  have p3 := rdNext_pos T (fa2 T p) (faN T p) p2
  have hN : faN T p < 4294967296 := beNum_le _ (Nat.le_trans (rdTake_size _ _ _) (by decide))
  have hD : (faText T p).size ≤ maxLen := by have := faText_size T p; unfold maxLen; omega
  have HN := Lib.hid hN
  have HP := Lib.hid p1
  have HP2 := Lib.hid p2
  have HP3 := Lib.hid p3
  clear hN p1 p2 p3
  have hB : Blk _ _ 113 (rdCells T (fa0 p)) := Blk.new w 113 #[.string T, .int .i64 (p : Int), .bool false]
  have he := Ext.new (Below.refl w.heap.size w) (.cells #[.string T, .int .i64 (p : Int), .bool false] 113)
  go_enter Tryz.func205, Tryz.ntmps205
  go_wp2_with fail
  obtain ⟨g, hg⟩ : ∃ g, g = w.heap.size := ⟨_, rfl⟩
  rw [← hg] at hB
  rw [← hg]
  have Hg : w.heap.size ≤ g := by omega
  clear hg
  refine (number_any g T (fa0 p) 2 _ hB hp hT (by decide)).mono ?_
  rintro e w1 ⟨rfl, hB, hx⟩
  replace he := he.nextBut Hg hx; clear hx
  go_wp2_with fail
  refine (bytes_any g T (fa1 T p) 4 _ hB HP.out hT (by decide)).mono ?_
  rintro e w2 ⟨rfl, hB, hx⟩
  replace he := he.nextBut Hg hx; clear hx
  go_wp2_with fail
  refine (bytes_any g T (fa2 T p) (faN T p) _ hB HP2.out hT (by have := HN.out; omega)).mono ?_
  rintro e w3 ⟨rfl, hB, hx⟩
  replace he := he.nextBut Hg hx; clear hx
  obtain ⟨q, hq⟩ : ∃ q, q = (fa3 T p).pos := ⟨_, rfl⟩
  have Hq := Lib.hid hq
  clear hq
  have c1 : w3.cell? ⟨g, 1, none⟩ = some (.int .i64 (q : Int)) := by rw [Hq.out]; exact hB.cell 1
  have f2 := hB.frozen 2
  cases b1 : (fa3 T p).bad
  · have c2 : w3.cell? ⟨g, 2, none⟩ = some (.bool false) := by rw [← b1]; exact hB.cell 2
    clear hB
    cases b2 : inR (faN T p) 1 1000
    · have E := Lib.hid (show faOk T p = false by simp [faOk, b2])
      have b2' : inR (beNum (rdTake T (fa0 p) 2)) 1 1000 = false := b2
      go_wp2_with (go_at_call 140; refine (inRange_any _ _ _ _).mono ?_; rintro e w' ⟨rfl, rfl⟩)
      go_ret3
      exact ⟨by rw [faRes, E.out]; rfl, he⟩
    · have b2' : inR (beNum (rdTake T (fa0 p) 2)) 1 1000 = true := b2
      go_wp2_with (go_at_call 140; refine (inRange_any _ _ _ _).mono ?_; rintro e w' ⟨rfl, rfl⟩)
      refine (Digest_any 4 4 (faText T p) _ hD).mono ?_
      rintro e w4 ⟨rfl, h1⟩
      have c1' : w4.cell? ⟨g, 1, none⟩ = some (.int .i64 (q : Int)) := (h1.cell (p := ⟨g, 1, none⟩) (Go.Proofs.YtkcjhfidgnbdiaaGreat.cell_lt c1)).trans c1
      replace he := he.next h1
      clear h1 c1 c2 f2
      cases b3 : ((digest 4 4 (faText T p)).toList == (faSum T p).toList)
      · have E := Lib.hid (show faOk T p = false by simp [faOk, b3])
        have b3' : ((digest 4 4 (faText T p)).toList == (rdTake T (fa1 T p) 4).toList) = false := b3
        go_wp2_with fail
        go_ret3
        exact ⟨by rw [faRes, E.out]; rfl, he⟩
      · have b3' : ((digest 4 4 (faText T p)).toList == (rdTake T (fa1 T p) 4).toList) = true := b3
        have E := Lib.hid (show faOk T p = true by simp only [faOk, b1, b2, b3]; rfl)
        go_wp2_with fail
        go_quiet (fail)
        go_wp2_with fail
        go_ret3
        exact ⟨by rw [faRes, E.out, ← Hq.out]; rfl, he.drewN _⟩
  · have c2 : w3.cell? ⟨g, 2, none⟩ = some (.bool true) := by rw [← b1]; exact hB.cell 2
    have E := Lib.hid (show faOk T p = false by simp [faOk, b1])
    go_wp2_with fail
    go_ret3
    exact ⟨by rw [faRes, E.out]; rfl, he⟩
end Go.Proofs.YtkcjhfidgnbdiaaGreat

/-
  Frame, frameAt: walks. No condition.
-/
import Derived.Test.YtichegndafnjeaaReread
import Derived.Test.YtichegndafnjeaaHashTop
import Derived.Test.YtichegndafnjeaaSpecDigest
namespace Go.Proofs.Ytichegndafnjeaa
open Go.RowKit
set_option linter.unusedVariables false

theorem dig4 {T : ByteArray} (h : inR T.size 1 1000 = true) : digestOk 4 4 T = true := by
  obtain ⟨h0, h1⟩ := inR_true h
  simp only [digestOk, Bool.and_eq_true, decide_eq_true_eq]
  exact ⟨⟨by decide, by decide⟩, by omega⟩
theorem dig4_size {T : ByteArray} (h : inR T.size 1 1000 = true) : (digest 4 4 T).size = 4 := digest_size (dig4 h)
def frameB (T : ByteArray) : ByteArray := lowB T.size 2 ++ digest 4 4 T ++ T
def frameOut (T : ByteArray) : ByteArray := if inR T.size 1 1000 then frameB T else ⟨#[]⟩
set_option maxHeartbeats 1000000 in
theorem specFrame_any (T : ByteArray) (w : World) (hT : T.size ≤ maxLen) : Calls Try.prog 69 #[.string T] w fun e w' => e = .returned (.tuple #[.string (frameOut T), .bool (inR T.size 1 1000)]) ∧ Ext w w' := by
  have HT := Lib.hid hT
  unfold maxLen at hT
  cases b1 : inR T.size 1 1000
  · have E := Lib.hid (show frameOut T = ⟨#[]⟩ by simp [frameOut, b1])
    go_enter Try.func69, Try.ntmps69
    go_wp2_with (go_at_call 45; refine (l01In_any _ _ _ _).mono ?_; rintro e w' ⟨rfl, rfl⟩)
    go_ret2
    exact ⟨by rw [E.out]; rfl, Below.refl _ _⟩
  · have E := Lib.hid (show frameOut T = frameB T by simp [frameOut, b1])
    obtain ⟨h0, h1⟩ := inR_true b1
    have d4 := dig4_size b1
    have l2 := lowB_size T.size 2
    have n1 : ¬ 9223372036854775807 < (lowB T.size 2).size + (digest 4 4 T).size := by omega
    have n2 : ¬ 9223372036854775807 < (lowB T.size 2).size + (digest 4 4 T).size + T.size := by omega
    have he := Below.refl w.heap.size w
    go_enter Try.func69, Try.ntmps69
    go_wp2_with (go_at_call 45; refine (l01In_any _ _ _ _).mono ?_; rintro e w' ⟨rfl, rfl⟩)
    refine (specDigest_any 4 4 T _ HT.out).mono ?_
    rintro e w1 ⟨rfl, hx⟩
    replace he : Ext w w1 := Ext.next he hx
    go_wp2_with fail
    refine (l03Number_any T.size 2 _ (by omega) (by decide)).mono ?_
    rintro e w2 ⟨rfl, hx⟩
    replace he : Ext w w2 := he.next hx
    go_wp2_with fail
    go_ret2
    exact ⟨by rw [E.out]; rfl, he⟩
def fa0 (p : Nat) : Rd := ⟨p, false⟩
def faN (T : ByteArray) (p : Nat) : Nat := beNum (rdTake T (fa0 p) 2)
def fa1 (T : ByteArray) (p : Nat) : Rd := rdNext T (fa0 p) 2
def faSum (T : ByteArray) (p : Nat) : ByteArray := rdTake T (fa1 T p) 4
def fa2 (T : ByteArray) (p : Nat) : Rd := rdNext T (fa1 T p) 4
def faText (T : ByteArray) (p : Nat) : ByteArray := rdTake T (fa2 T p) (faN T p)
def fa3 (T : ByteArray) (p : Nat) : Rd := rdNext T (fa2 T p) (faN T p)
def faOk (T : ByteArray) (p : Nat) : Bool := !(fa3 T p).bad && inR (faN T p) 1 1000 && ((digest 4 4 (faText T p)).toList == (faSum T p).toList)
def faRes (T : ByteArray) (p : Nat) : Ending := .returned (.tuple #[.string (if faOk T p then faText T p else ⟨#[]⟩), .int .i64 (if faOk T p then ((fa3 T p).pos : Int) else 0), .bool (faOk T p)])
theorem faText_size (T : ByteArray) (p : Nat) : (faText T p).size ≤ T.size := by
  unfold faText rdTake
  split
  · exact Nat.zero_le _
  · rw [ByteArray.size_extract]; omega
set_option maxHeartbeats 2000000 in
set_option maxRecDepth 100000 in
theorem frameAt_any (T : ByteArray) (p : Nat) (w : World) (hT : T.size ≤ 1099511627776) (hp : p ≤ T.size) : Calls Try.prog 73 #[.string T, .int .i64 (p : Int)] w fun e w' => e = faRes T p ∧ Ext w w' := by
  have p1 := rdNext_pos T (fa0 p) 2 hp
  have p2 := rdNext_pos T (fa1 T p) 4 p1
  have p3 := rdNext_pos T (fa2 T p) (faN T p) p2
  have hN : faN T p < 4294967296 := beNum_le _ (Nat.le_trans (rdTake_size _ _ _) (by decide))
  have hD : (faText T p).size ≤ maxLen := by have := faText_size T p; unfold maxLen; omega
  have HN := Lib.hid hN
  have HP := Lib.hid p1
  have HP2 := Lib.hid p2
  have HP3 := Lib.hid p3
  clear hN p1 p2 p3
  have hB : Blk _ _ 107 (rdCells T (fa0 p)) := Blk.new w 107 #[.string T, .int .i64 (p : Int), .bool false]
  have he := Ext.new (Below.refl w.heap.size w) (.cells #[.string T, .int .i64 (p : Int), .bool false] 107)
  go_enter Try.func73, Try.ntmps73
  go_wp2_with fail
  obtain ⟨g, hg⟩ : ∃ g, g = w.heap.size := ⟨_, rfl⟩
  rw [← hg] at hB
  rw [← hg]
  have Hg : w.heap.size ≤ g := by omega
  clear hg
  refine (number_any g T (fa0 p) 2 _ hB hp hT (by decide)).mono ?_
  rintro e w1 ⟨rfl, hB, hx⟩
  replace he := he.nextBut Hg hx; clear hx
  go_wp2_with fail
  refine (bytes_any g T (fa1 T p) 4 _ hB HP.out hT (by decide)).mono ?_
  rintro e w2 ⟨rfl, hB, hx⟩
  replace he := he.nextBut Hg hx; clear hx
  go_wp2_with fail
  refine (bytes_any g T (fa2 T p) (faN T p) _ hB HP2.out hT (by have := HN.out; omega)).mono ?_
  rintro e w3 ⟨rfl, hB, hx⟩
  replace he := he.nextBut Hg hx; clear hx
  obtain ⟨q, hq⟩ : ∃ q, q = (fa3 T p).pos := ⟨_, rfl⟩
  have Hq := Lib.hid hq
  clear hq
  have c1 : w3.cell? ⟨g, 1, none⟩ = some (.int .i64 (q : Int)) := by rw [Hq.out]; exact hB.cell 1
  have f2 := hB.frozen 2
  cases b1 : (fa3 T p).bad
  · have c2 : w3.cell? ⟨g, 2, none⟩ = some (.bool false) := by rw [← b1]; exact hB.cell 2
    clear hB
    cases b2 : inR (faN T p) 1 1000
    · have E := Lib.hid (show faOk T p = false by simp [faOk, b2])
      have b2' : inR (beNum (rdTake T (fa0 p) 2)) 1 1000 = false := b2
      go_wp2_with (go_at_call 74; refine (inRange_any _ _ _ _).mono ?_; rintro e w' ⟨rfl, rfl⟩)
      go_ret3
      exact ⟨by rw [faRes, E.out]; rfl, he⟩
    · have b2' : inR (beNum (rdTake T (fa0 p) 2)) 1 1000 = true := b2
      go_wp2_with (go_at_call 74; refine (inRange_any _ _ _ _).mono ?_; rintro e w' ⟨rfl, rfl⟩)
      refine (Digest_any 4 4 (faText T p) _ hD).mono ?_
      rintro e w4 ⟨rfl, h1⟩
      have c1' : w4.cell? ⟨g, 1, none⟩ = some (.int .i64 (q : Int)) := (h1.cell (p := ⟨g, 1, none⟩) (Go.Proofs.Ytichegndafnjeaa.cell_lt c1)).trans c1
      replace he := he.next h1
      clear h1 c1 c2 f2
      cases b3 : ((digest 4 4 (faText T p)).toList == (faSum T p).toList)
      · have E := Lib.hid (show faOk T p = false by simp [faOk, b3])
        have b3' : ((digest 4 4 (faText T p)).toList == (rdTake T (fa1 T p) 4).toList) = false := b3
        go_wp2_with fail
        go_ret3
        exact ⟨by rw [faRes, E.out]; rfl, he⟩
      · have b3' : ((digest 4 4 (faText T p)).toList == (rdTake T (fa1 T p) 4).toList) = true := b3
        have E := Lib.hid (show faOk T p = true by simp only [faOk, b1, b2, b3]; rfl)
        go_wp2_with fail
        go_quiet (fail)
        go_wp2_with fail
        go_ret3
        exact ⟨by rw [faRes, E.out, ← Hq.out]; rfl, he.drewN _⟩
  · have c2 : w3.cell? ⟨g, 2, none⟩ = some (.bool true) := by rw [← b1]; exact hB.cell 2
    have E := Lib.hid (show faOk T p = false by simp [faOk, b1])
    go_wp2_with fail
    go_ret3
    exact ⟨by rw [faRes, E.out]; rfl, he⟩
end Go.Proofs.Ytichegndafnjeaa

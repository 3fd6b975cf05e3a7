/-
  Texts that are read, and made again. No condition, no program.
  Frame, frameAt: walks. No condition.
-/
import Derived.Test.YtlgdghpnfclgpaaGreatWords
import Derived.Test.YtlgdghpnfclgpaaGreatPath
import Derived.Test.YtlgdghpnfclgpaaGreatHashTop
namespace Go.Proofs.YtlgdghpnfclgpaaGreat
set_option linter.unusedSimpArgs false
open Go.RowKit
set_option linter.unusedVariables false
def Sofar (T : ByteArray) (r : Rd) (X : ByteArray) : Prop := r.bad = false → T.extract 0 r.pos = X ∧ r.pos ≤ T.size
theorem Sofar.start (T : ByteArray) : Sofar T ⟨0, false⟩ ⟨#[]⟩ := fun _ => ⟨by simp; rfl, Nat.zero_le _⟩
theorem rdNext_ok {T : ByteArray} {r : Rd} {n : Nat} (h : (rdNext T r n).bad = false) : r.bad = false ∧ (rdNext T r n).pos = r.pos + n ∧ r.pos + n ≤ T.size ∧ rdTake T r n = T.extract r.pos (r.pos + n) := by
 unfold rdNext at h ⊢
 unfold rdTake
 cases hf : rdFails T r n
 · simp only [rdFails, Bool.or_eq_false_iff, decide_eq_false_iff_not] at hf
   exact ⟨hf.1, rfl, by omega, rfl⟩
 · rw [hf] at h; simp at h
theorem Sofar.take {T : ByteArray} {r : Rd} {X : ByteArray} (h : Sofar T r X) (n : Nat) : Sofar T (rdNext T r n) (X ++ rdTake T r n) := by
 intro hb
 obtain ⟨h1, h2, h3, h4⟩ := rdNext_ok hb
 obtain ⟨h5, h6⟩ := h h1
 refine ⟨?_, by omega⟩
 rw [h2, h4, ← h5]
 exact ByteArray.extract_eq_extract_append_extract r.pos (Nat.zero_le _) (by omega)
theorem rdTake_full {T : ByteArray} {r : Rd} {n : Nat} (h : (rdNext T r n).bad = false) : (rdTake T r n).size = n := by
 obtain ⟨h1, h2, h3, h4⟩ := rdNext_ok h
 rw [h4, ByteArray.size_extract]; omega
theorem ofNat_mod (m : Nat) (c : UInt8) (h : m % 256 = c.toNat) : UInt8.ofNat m = c := by
 apply UInt8.toNat_inj.1
 rw [UInt8.toNat_ofNat']
 have := c.toNat_lt
 show m % 256 = _
 omega
theorem one_of (b : ByteArray) (h : b.size = 1) : octB (beNum b : Int) = b := by
 obtain ⟨⟨l⟩⟩ := b
 match l, h with
 | [c], _ =>
   simp only [beNum, octB, ofInts, List.foldl_cons, List.foldl_nil, List.map_cons, List.map_nil]
   rw [ofNat_mod _ c (by have := c.toNat_lt; omega)]
theorem two_of (b : ByteArray) (h : b.size = 2) : octB ((beNum b : Int) / 256) ++ octB (beNum b : Int) = b := by
 obtain ⟨⟨l⟩⟩ := b
 match l, h with
 | [c, d], _ =>
   simp only [beNum, octB, ofInts, List.foldl_cons, List.foldl_nil, List.map_cons, List.map_nil]
   rw [ofNat_mod _ c (by have := c.toNat_lt; have := d.toNat_lt; omega), ofNat_mod _ d (by have := c.toNat_lt; have := d.toNat_lt; omega)]
   rfl
theorem lenB (b x : ByteArray) (h : b.size = 1) (hx : x.size = beNum b) : octB (x.size : Int) = b := by rw [hx, one_of b h]
theorem reread {T K k X : ByteArray} {r : Rd} (h : Sofar T r (K ++ X)) (hb : r.bad = false) (hs : K.size = k.size) : (decide (K = k) && rdDone T r) = decide (k ++ X = T) := by
 obtain ⟨h1, h2⟩ := h hb
 rw [Bool.eq_iff_iff]
 simp only [rdDone, hb, Bool.and_eq_true, decide_eq_true_eq, Bool.not_false, true_and]
 constructor
 · rintro ⟨rfl, h3⟩
   rw [← h1, h3]; exact ByteArray.extract_zero_size
 · intro h3
   have h4 := congrArg ByteArray.size h1
   have h5 := congrArg ByteArray.size h3
   rw [ByteArray.size_extract] at h4
   rw [ByteArray.size_append] at h4 h5
   have h6 : r.pos = T.size := by omega
   refine ⟨?_, h6⟩
   have h7 : K ++ X = k ++ X := by rw [← h1, h3, h6]; exact ByteArray.extract_zero_size
   exact ByteArray.append_inj_left h7 hs
theorem reread_bad {T : ByteArray} {r : Rd} (hb : r.bad = true) : rdDone T r = false := by simp [rdDone, hb]
theorem rdShortNext_ok {T : ByteArray} {r : Rd} {n : Nat} (h : (rdShortNext T r n).bad = false) : r.bad = false ∧ (rdNext T r n).bad = false ∧ (rdTake T r n).size = n ∧ (rdShort T r n).size = beNum (rdTake T r n) := by
 have h1 : (rdNext T r n).bad = false := (rdNext_ok h).1
 exact ⟨(rdNext_ok h1).1, h1, rdTake_full h1, rdTake_full h⟩
theorem bytes_beq (a b : ByteArray) : (a.toList == b.toList) = decide (a = b) := by
 rw [Bool.eq_iff_iff]; simp [bytes_eq_iff]
theorem kind_of (b : ByteArray) (c : UInt8) : (b.toList == [c]) = decide (b = ⟨#[c]⟩) := by
 have h : (⟨#[c]⟩ : ByteArray).toList = [c] := by rw [ByteArray.toList_eq]
 have h2 := bytes_beq b ⟨#[c]⟩
 rw [h] at h2
 exact h2
end Go.Proofs.YtlgdghpnfclgpaaGreat
namespace Go.Proofs.YtlgdghpnfclgpaaGreat
set_option linter.unusedSimpArgs false
open Go.RowKit
set_option linter.unusedVariables false
theorem dig4 {T : ByteArray} (h : inR T.size 1 1000 = true) : digestOk 4 4 T = true := by
 obtain ⟨h0, h1⟩ := inR_true h
 simp only [digestOk, Bool.and_eq_true, decide_eq_true_eq]
 exact ⟨⟨by decide, by decide⟩, by omega⟩
theorem dig4_size {T : ByteArray} (h : inR T.size 1 1000 = true) : (digest 4 4 T).size = 4 := digest_size (dig4 h)
def frameB (T : ByteArray) : ByteArray := lowB T.size 2 ++ digest 4 4 T ++ T
def frameOut (T : ByteArray) : ByteArray := if inR T.size 1 1000 then frameB T else ⟨#[]⟩
set_option maxHeartbeats 1000000 in
theorem specFrame_any (T : ByteArray) (w : World) (hT : T.size ≤ maxLen) : Calls Tryz.prog 119 #[.string T] w fun e w' => e = .returned (.tuple #[.string (frameOut T), .bool (inR T.size 1 1000)]) ∧ Ext w w' := by
 have HT := Lib.hid hT
 unfold maxLen at hT
 cases b1 : inR T.size 1 1000
 · have E := Lib.hid (show frameOut T = ⟨#[]⟩ by simp [frameOut, b1])
   go_enter Tryz.func119, Tryz.ntmps119
   go_wp2_with (go_at_call 181; refine (l01In_any _ _ _ _).mono ?_; rintro e w' ⟨rfl, rfl⟩)
   go_ret2
   exact ⟨by rw [E.out]; rfl, Below.refl _ _⟩
 · have E := Lib.hid (show frameOut T = frameB T by simp [frameOut, b1])
   obtain ⟨h0, h1⟩ := inR_true b1
   have d4 := dig4_size b1
   have l2 := lowB_size T.size 2
   have n1 : ¬ 9223372036854775807 < (lowB T.size 2).size + (digest 4 4 T).size := by omega
   have n2 : ¬ 9223372036854775807 < (lowB T.size 2).size + (digest 4 4 T).size + T.size := by omega
   have he := Below.refl w.heap.size w
   go_enter Tryz.func119, Tryz.ntmps119
   go_wp2_with (go_at_call 181; refine (l01In_any _ _ _ _).mono ?_; rintro e w' ⟨rfl, rfl⟩)
   refine (specDigest_any 4 4 T _ HT.out).mono ?_
   rintro e w1 ⟨rfl, hx⟩
   replace he : Ext w w1 := Ext.next he hx
   go_wp2_with fail
   refine (l03Number_any T.size 2 _ (by omega) (by decide)).mono ?_
   rintro e w2 ⟨rfl, hx⟩
   replace he : Ext w w2 := he.next hx
   go_wp2_with fail
   go_ret2
   exact ⟨by rw [E.out]; rfl, he⟩
def fa0 (p : Nat) : Rd := ⟨p, false⟩
def faN (T : ByteArray) (p : Nat) : Nat := beNum (rdTake T (fa0 p) 2)
def fa1 (T : ByteArray) (p : Nat) : Rd := rdNext T (fa0 p) 2
def faSum (T : ByteArray) (p : Nat) : ByteArray := rdTake T (fa1 T p) 4
def fa2 (T : ByteArray) (p : Nat) : Rd := rdNext T (fa1 T p) 4
def faText (T : ByteArray) (p : Nat) : ByteArray := rdTake T (fa2 T p) (faN T p)
def fa3 (T : ByteArray) (p : Nat) : Rd := rdNext T (fa2 T p) (faN T p)
def faOk (T : ByteArray) (p : Nat) : Bool := !(fa3 T p).bad && inR (faN T p) 1 1000 && ((digest 4 4 (faText T p)).toList == (faSum T p).toList)
def faRes (T : ByteArray) (p : Nat) : Ending := .returned (.tuple #[.string (if faOk T p then faText T p else ⟨#[]⟩), .int .i64 (if faOk T p then ((fa3 T p).pos : Int) else 0), .bool (faOk T p)])
theorem faText_size (T : ByteArray) (p : Nat) : (faText T p).size ≤ T.size := by
 unfold faText rdTake
 split
 · exact Nat.zero_le _
 · rw [ByteArray.size_extract]; omega
set_option maxHeartbeats 2000000 in
set_option maxRecDepth 100000 in
theorem frameAt_any (T : ByteArray) (p : Nat) (w : World) (hT : T.size ≤ 1099511627776) (hp : p ≤ T.size) : Calls Tryz.prog 136 #[.string T, .int .i64 (p : Int)] w fun e w' => e = faRes T p ∧ Ext w w' := by
 have p1 := rdNext_pos T (fa0 p) 2 hp
 have p2 := rdNext_pos T (fa1 T p) 4 p1
 have p3 := rdNext_pos T (fa2 T p) (faN T p) p2
 have hN : faN T p < 4294967296 := beNum_le _ (Nat.le_trans (rdTake_size _ _ _) (by decide))
 have hD : (faText T p).size ≤ maxLen := by have := faText_size T p; unfold maxLen; omega
 have HN := Lib.hid hN
 have HP := Lib.hid p1
 have HP2 := Lib.hid p2
 have HP3 := Lib.hid p3
 clear hN p1 p2 p3
 have hB : Blk _ _ 234 (rdCells T (fa0 p)) := Blk.new w 234 #[.string T, .int .i64 (p : Int), .bool false]
 have he := Ext.new (Below.refl w.heap.size w) (.cells #[.string T, .int .i64 (p : Int), .bool false] 234)
 go_enter Tryz.func136, Tryz.ntmps136
 go_wp2_with fail
 obtain ⟨g, hg⟩ : ∃ g, g = w.heap.size := ⟨_, rfl⟩
 rw [← hg] at hB
 rw [← hg]
 have Hg : w.heap.size ≤ g := by omega
 clear hg
 refine (number_any g T (fa0 p) 2 _ hB hp hT (by decide)).mono ?_
 rintro e w1 ⟨rfl, hB, hx⟩
 replace he := he.nextBut Hg hx; clear hx
 go_wp2_with fail
 refine (bytes_any g T (fa1 T p) 4 _ hB HP.out hT (by decide)).mono ?_
 rintro e w2 ⟨rfl, hB, hx⟩
 replace he := he.nextBut Hg hx; clear hx
 go_wp2_with fail
 refine (bytes_any g T (fa2 T p) (faN T p) _ hB HP2.out hT (by have := HN.out; omega)).mono ?_
 rintro e w3 ⟨rfl, hB, hx⟩
 replace he := he.nextBut Hg hx; clear hx
 obtain ⟨q, hq⟩ : ∃ q, q = (fa3 T p).pos := ⟨_, rfl⟩
 have Hq := Lib.hid hq
 clear hq
 have c1 : w3.cell? ⟨g, 1, none⟩ = some (.int .i64 (q : Int)) := by rw [Hq.out]; exact hB.cell 1
 have f2 := hB.frozen 2
 cases b1 : (fa3 T p).bad
 · have c2 : w3.cell? ⟨g, 2, none⟩ = some (.bool false) := by rw [← b1]; exact hB.cell 2
   clear hB
   cases b2 : inR (faN T p) 1 1000
   · have E := Lib.hid (show faOk T p = false by simp [faOk, b2])
     have b2' : inR (beNum (rdTake T (fa0 p) 2)) 1 1000 = false := b2
     go_wp2_with (go_at_call 135; refine (inRange_any _ _ _ _).mono ?_; rintro e w' ⟨rfl, rfl⟩)
     go_ret3
     exact ⟨by rw [faRes, E.out]; rfl, he⟩
   · have b2' : inR (beNum (rdTake T (fa0 p) 2)) 1 1000 = true := b2
     go_wp2_with (go_at_call 135; refine (inRange_any _ _ _ _).mono ?_; rintro e w' ⟨rfl, rfl⟩)
     refine (Digest_any 4 4 (faText T p) _ hD).mono ?_
     rintro e w4 ⟨rfl, h1⟩
     have c1' : w4.cell? ⟨g, 1, none⟩ = some (.int .i64 (q : Int)) := (h1.cell (p := ⟨g, 1, none⟩) (Go.Proofs.YtlgdghpnfclgpaaGreat.cell_lt c1)).trans c1
     replace he := he.next h1
     clear h1 c1 c2 f2
     cases b3 : ((digest 4 4 (faText T p)).toList == (faSum T p).toList)
     · have E := Lib.hid (show faOk T p = false by simp [faOk, b3])
       have b3' : ((digest 4 4 (faText T p)).toList == (rdTake T (fa1 T p) 4).toList) = false := b3
       go_wp2_with fail
       go_ret3
       exact ⟨by rw [faRes, E.out]; rfl, he⟩
     · have b3' : ((digest 4 4 (faText T p)).toList == (rdTake T (fa1 T p) 4).toList) = true := b3
       have E := Lib.hid (show faOk T p = true by simp only [faOk, b1, b2, b3]; rfl)
       go_wp2_with fail
       go_quiet (fail)
       go_wp2_with fail
       go_ret3
       exact ⟨by rw [faRes, E.out, ← Hq.out]; rfl, he.drewN _⟩
 · have c2 : w3.cell? ⟨g, 2, none⟩ = some (.bool true) := by rw [← b1]; exact hB.cell 2
   have E := Lib.hid (show faOk T p = false by simp [faOk, b1])
   go_wp2_with fail
   go_ret3
   exact ⟨by rw [faRes, E.out]; rfl, he⟩
end Go.Proofs.YtlgdghpnfclgpaaGreat

/-
  Gapless: walks. Written by program (gen_gap.py). No condition.
-/
import Derived.Test.YthkioaimcohecaaTypes
import Derived.Test.YthkioaimcohecaaName
namespace Go.Proofs.Ythkioaimcohecaa
open Go.RowKit
set_option linter.unusedVariables false

/-- Is it one's, and of a topic? -/
def ofWho (x : GivenD) (who : Int) (topic : ByteArray) : Bool := (x.who == who) && (x.entry.topic.toList == topic.toList)
def gap (who : Int) (topic : ByteArray) : Nat → Int → List GivenD → Bool
  | _, _, [] => true
  | n, last, x :: xs => if ofWho x who topic = true then (if x.entry.index = n ∧ (n = 0 ∨ last < x.leaf) then gap who topic (n + 1) x.leaf xs else false) else gap who topic n last xs
theorem gap_zero (who : Int) (topic : ByteArray) (a b : Int) : ∀ l : List GivenD, gap who topic 0 a l = gap who topic 0 b l
  | [] => rfl
  | x :: xs => by
    simp only [gap]
    split
    · simp
    · exact gap_zero who topic a b xs
def gaplessB (l : List GivenD) (who : Int) (topic : ByteArray) : Bool := decide (l.length ≤ 200) && gap who topic 0 0 l
def GapInv (l : List GivenD) (who : Int) (topic : ByteArray) (fin : Bool) (k n : Nat) (last : Int) : Prop := n ≤ k ∧ gap who topic n last (l.drop k) = fin
section
variable {l : List GivenD} {who : Int} {topic : ByteArray} {fin : Bool} {k n : Nat} {last : Int}
theorem GapInv.done (h : GapInv l who topic fin k n last) (hk : l.length ≤ k) : fin = true := by
  obtain ⟨_, h⟩ := h
  rw [List.drop_eq_nil_of_le hk] at h
  simpa [gap] using h.symm
theorem GapInv.other (h : GapInv l who topic fin k n last) (hk : k < l.length) (ho : ofWho l[k] who topic = false) : GapInv l who topic fin (k + 1) n last := by
  obtain ⟨h0, h⟩ := h
  rw [List.drop_eq_getElem_cons hk] at h
  simp only [gap, ho] at h
  exact ⟨by omega, by simpa using h⟩
theorem GapInv.bad (h : GapInv l who topic fin k n last) (hk : k < l.length) (ho : ofWho l[k] who topic = true) (hb : ¬ (l[k].entry.index = n ∧ (n = 0 ∨ last < l[k].leaf))) : fin = false := by
  obtain ⟨h0, h⟩ := h
  rw [List.drop_eq_getElem_cons hk] at h
  simp only [gap, ho, if_true, if_neg hb] at h
  exact h.symm
theorem GapInv.good (h : GapInv l who topic fin k n last) (hk : k < l.length) (ho : ofWho l[k] who topic = true) (hb : l[k].entry.index = n ∧ (n = 0 ∨ last < l[k].leaf)) : GapInv l who topic fin (k + 1) (n + 1) l[k].leaf := by
  obtain ⟨h0, h⟩ := h
  rw [List.drop_eq_getElem_cons hk] at h
  simp only [gap, ho, if_true, if_pos hb] at h
  exact ⟨by omega, h⟩
end

theorem l23Small_any (A : Option Addr) (n c : Nat) (w : World) : Calls Try.prog 83 #[.slice A n c] w fun e w' => e = .returned (.bool (decide (n ≤ 200))) ∧ w = w' := by
  by_cases h : n ≤ 200
  all_goals
    go_enter Try.func83, Try.ntmps83
    go_wp2
    go_ret
    exact ⟨by simp [h]; try omega, rfl⟩
theorem isSmall_any (A : Option Addr) (n c : Nat) (w : World) : Calls Try.prog 85 #[.slice A n c] w fun e w' => e = .returned (.bool (decide (n ≤ 200))) ∧ w = w' := by
  by_cases h : n ≤ 200
  all_goals
    go_enter Try.func85, Try.ntmps85
    go_wp2
    go_ret
    exact ⟨by simp [h]; try omega, rfl⟩
set_option maxHeartbeats 2000000 in
set_option maxRecDepth 100000 in
theorem specGapless_any (A : Option Addr) (c : Nat) (l : List GivenD) (who : Int) (topic : ByteArray) (w : World) (hr : ReadsL w w.heap.size GivenD.cells 7 A l) (hl : l.length ≤ 1048576) :
    Calls Try.prog 39 #[.slice A l.length c, .int .i64 who, .string topic] w fun e w' => e = .returned (.bool (gaplessB l who topic)) ∧ Ext w w' := by
  by_cases hs : l.length ≤ 200
  case neg =>
    have Hp := Lib.hid (show gaplessB l who topic = false by simp [gaplessB]; omega)
    have hd : decide (l.length ≤ 200) = false := by simpa using hs
    have hpos : (0 : Int) < (l.length : Int) := by omega
    have hpos2 : 0 < l.length := by omega
    go_enter Try.func39, Try.ntmps39
    go_wp2_with fail
    refine wp_loop_rounds 1 ?_
    rw [rounds_succ]
    go_wp2_with (go_at_call 83; refine (l23Small_any _ _ _ _).mono ?_; rintro e w' ⟨rfl, rfl⟩)
    go_ret
    exact ⟨ret_bool Hp.out.symm, Below.refl _ _⟩
  have hd : decide (l.length ≤ 200) = true := by simpa using hs
  obtain ⟨fin, hfin⟩ : ∃ fin, fin = gaplessB l who topic := ⟨_, rfl⟩
  have Hi : GapInv l who topic fin 0 0 (-1) := by
    refine ⟨Nat.le_refl _, ?_⟩
    rw [hfin, gaplessB, hd, List.drop_zero, Bool.true_and]
    exact gap_zero _ _ _ _ _
  rw [← hfin]; clear hfin
  go_enter Try.func39, Try.ntmps39
  go_wp2_with fail
  go_loopw [7, 8, 9] (fun sn sl i wr => ∃ (k n : Nat) (last : Int), k ≤ l.length ∧ i = .int .i64 k ∧ sn = .int .i64 n ∧ sl = .int .i64 last ∧ n ≤ k ∧ GapInv l who topic fin k n last ∧ Ext w wr) (fun _ _ i _ => l.length - (intOf i).toNat)
  case atStart => exact ⟨0, 0, _, Nat.zero_le _, rfl, rfl, rfl, Nat.le_refl _, Hi, Below.refl _ _⟩
  case round =>
    obtain ⟨k, n, last, hk, rfl, rfl, rfl, hnk, hi, he⟩ := hrel
    clear Hi
    by_cases hlt : k < l.length
    · obtain ⟨g, off, rfl, hb, hc⟩ := (hr.below he).at_ (k := k) hlt
      obtain ⟨d, hd1⟩ : ∃ d, d = l[k] := ⟨_, rfl⟩
      have hdl : l[k]? = some d := by rw [hd1]; exact List.getElem?_eq_getElem hlt
      have c0 := hc 0 _ (flat_at _ 7 GivenD.cells_length l k 0 d hdl (by omega))
      have c1 := hc 1 _ (flat_at _ 7 GivenD.cells_length l k 1 d hdl (by omega))
      have c2 := hc 2 _ (flat_at _ 7 GivenD.cells_length l k 2 d hdl (by omega))
      have c3 := hc 3 _ (flat_at _ 7 GivenD.cells_length l k 3 d hdl (by omega))
      have c4 := hc 4 _ (flat_at _ 7 GivenD.cells_length l k 4 d hdl (by omega))
      have c5 := hc 5 _ (flat_at _ 7 GivenD.cells_length l k 5 d hdl (by omega))
      have c6 := hc 6 _ (flat_at _ 7 GivenD.cells_length l k 6 d hdl (by omega))
      rw [Nat.add_zero] at c0
      have Hoth := Lib.hid (hi.other hlt); have Hbad := Lib.hid (hi.bad hlt); have Hgood := Lib.hid (hi.good hlt)
      rw [← hd1] at Hoth Hbad Hgood
      clear hc hd1 hdl hi
      cases b1 : (d.who == who)
      · have E := Lib.hid (Hoth.out (by simp [ofWho, b1]))
        clear Hoth Hbad Hgood
        have b1' : (d.who != who) = true := by simp [bne, b1]
        go_wp2_with (go_at_call 83; refine (l23Small_any _ _ _ _).mono ?_; rintro e w' ⟨rfl, rfl⟩)
        go_roundw
        case rel => exact ⟨k + 1, n, last, by omega, by go_num, rfl, rfl, by omega, E.out, (he.new _)⟩
        case measure => simp [intOf]; omega
      have b1' : (d.who != who) = false := by simp [bne, b1]
      cases b2 : (d.entry.topic.toList == topic.toList)
      · have E := Lib.hid (Hoth.out (by simp [ofWho, b2]))
        clear Hoth Hbad Hgood
        go_wp2_with (go_at_call 83; refine (l23Small_any _ _ _ _).mono ?_; rintro e w' ⟨rfl, rfl⟩)
        go_roundw
        case rel => exact ⟨k + 1, n, last, by omega, by go_num, rfl, rfl, by omega, E.out, (he.new _)⟩
        case measure => simp [intOf]; omega
      have Ho := Lib.hid (show ofWho d who topic = true by simp only [ofWho, b1, b2, Bool.and_self])
      by_cases b3 : d.entry.index = (n : Int)
      case neg =>
        have E := Lib.hid (Hbad.out Ho.out (fun h => b3 h.1))
        have b3' : (d.entry.index != (n : Int)) = true := by simpa using b3
        clear Hoth Hbad Hgood b3
        go_wp2_with (go_at_call 83; refine (l23Small_any _ _ _ _).mono ?_; rintro e w' ⟨rfl, rfl⟩)
        go_ret
        exact ⟨ret_bool E.out.symm, he.new _⟩
      have b3' : (d.entry.index != (n : Int)) = false := by simpa using b3
      have B3 := Lib.hid b3
      clear b3
      by_cases b4 : n = 0
      · have E := Lib.hid (Hgood.out Ho.out ⟨B3.out, .inl b4⟩)
        subst b4
        clear Hoth Hbad Hgood
        go_wp2_with (go_at_call 83; refine (l23Small_any _ _ _ _).mono ?_; rintro e w' ⟨rfl, rfl⟩)
        go_roundw
        case rel => exact ⟨k + 1, 0 + 1, d.leaf, by omega, by go_num, by go_num, rfl, by omega, E.out, (he.new _)⟩
        case measure => simp [intOf]; omega
      have b4' : (0 : Int) < (n : Int) := by omega
      have b5' : decide (n = 0) = false := by simpa using b4
      by_cases b6 : last < d.leaf
      · have E := Lib.hid (Hgood.out Ho.out ⟨B3.out, .inr b6⟩)
        clear Hoth Hbad Hgood b4
        go_wp2_with (go_at_call 83; refine (l23Small_any _ _ _ _).mono ?_; rintro e w' ⟨rfl, rfl⟩)
        go_roundw
        case rel => exact ⟨k + 1, n + 1, d.leaf, by omega, by go_num, by go_num, rfl, by omega, E.out, (he.new _)⟩
        case measure => simp [intOf]; omega
      · have E := Lib.hid (Hbad.out Ho.out (fun h => by rcases h.2 with h | h <;> omega))
        clear Hoth Hbad Hgood b4
        go_wp2_with (go_at_call 83; refine (l23Small_any _ _ _ _).mono ?_; rintro e w' ⟨rfl, rfl⟩)
        go_ret
        exact ⟨ret_bool E.out.symm, he.new _⟩
    · have E := Lib.hid (hi.done (by omega))
      clear hi
      go_wp2_with (go_at_call 83; refine (l23Small_any _ _ _ _).mono ?_; rintro e w' ⟨rfl, rfl⟩)
      go_ret
      exact ⟨ret_bool E.out.symm, he⟩
set_option maxHeartbeats 2000000 in
set_option maxRecDepth 100000 in
theorem implGapless_any (A : Option Addr) (c : Nat) (l : List GivenD) (who : Int) (topic : ByteArray) (w : World) (hr : ReadsL w w.heap.size GivenD.cells 7 A l) (hl : l.length ≤ 1048576) :
    Calls Try.prog 41 #[.slice A l.length c, .int .i64 who, .string topic] w fun e w' => e = .returned (.bool (gaplessB l who topic)) ∧ Ext w w' := by
  by_cases hs : l.length ≤ 200
  case neg =>
    have Hp := Lib.hid (show gaplessB l who topic = false by simp [gaplessB]; omega)
    have hd : decide (l.length ≤ 200) = false := by simpa using hs
    go_enter Try.func41, Try.ntmps41
    go_wp2_with (go_at_call 85; refine (isSmall_any _ _ _ _).mono ?_; rintro e w' ⟨rfl, rfl⟩)
    go_ret
    exact ⟨ret_bool Hp.out.symm, Below.refl _ _⟩
  have hd : decide (l.length ≤ 200) = true := by simpa using hs
  obtain ⟨fin, hfin⟩ : ∃ fin, fin = gaplessB l who topic := ⟨_, rfl⟩
  have Hi : GapInv l who topic fin 0 0 0 := by
    refine ⟨Nat.le_refl _, ?_⟩
    rw [hfin, gaplessB, hd, List.drop_zero, Bool.true_and]
  rw [← hfin]; clear hfin
  go_enter Try.func41, Try.ntmps41
  go_wp2_with (go_at_call 85; refine (isSmall_any _ _ _ _).mono ?_; rintro e w' ⟨rfl, rfl⟩)
  go_loopw [7, 8, 9, 17] (fun sn sl sf i wr => ∃ (k n : Nat) (last : Int), k ≤ l.length ∧ i = .int .i64 k ∧ sn = .int .i64 n ∧ sl = .int .i64 last ∧ sf = .bool (decide (n = 0)) ∧ n ≤ k ∧ GapInv l who topic fin k n last ∧ Ext w wr) (fun _ _ _ i _ => l.length - (intOf i).toNat)
  case atStart => exact ⟨0, 0, _, Nat.zero_le _, rfl, rfl, rfl, rfl, Nat.le_refl _, Hi, Below.refl _ _⟩
  case round =>
    obtain ⟨k, n, last, hk, rfl, rfl, rfl, rfl, hnk, hi, he⟩ := hrel
    clear Hi
    by_cases hlt : k < l.length
    · obtain ⟨g, off, rfl, hb, hc⟩ := (hr.below he).at_ (k := k) hlt
      obtain ⟨d, hd1⟩ : ∃ d, d = l[k] := ⟨_, rfl⟩
      have hdl : l[k]? = some d := by rw [hd1]; exact List.getElem?_eq_getElem hlt
      have c0 := hc 0 _ (flat_at _ 7 GivenD.cells_length l k 0 d hdl (by omega))
      have c1 := hc 1 _ (flat_at _ 7 GivenD.cells_length l k 1 d hdl (by omega))
      have c2 := hc 2 _ (flat_at _ 7 GivenD.cells_length l k 2 d hdl (by omega))
      have c3 := hc 3 _ (flat_at _ 7 GivenD.cells_length l k 3 d hdl (by omega))
      have c4 := hc 4 _ (flat_at _ 7 GivenD.cells_length l k 4 d hdl (by omega))
      have c5 := hc 5 _ (flat_at _ 7 GivenD.cells_length l k 5 d hdl (by omega))
      have c6 := hc 6 _ (flat_at _ 7 GivenD.cells_length l k 6 d hdl (by omega))
      rw [Nat.add_zero] at c0
      have Hoth := Lib.hid (hi.other hlt); have Hbad := Lib.hid (hi.bad hlt); have Hgood := Lib.hid (hi.good hlt)
      rw [← hd1] at Hoth Hbad Hgood
      clear hc hd1 hdl hi
      cases b1 : (d.who == who)
      · have E := Lib.hid (Hoth.out (by simp [ofWho, b1]))
        clear Hoth Hbad Hgood
        have b1' : (d.who != who) = true := by simp [bne, b1]
        go_wp2_with fail
        go_roundw
        case rel => exact ⟨k + 1, n, last, by omega, by go_num, rfl, rfl, rfl, by omega, E.out, (he.new _)⟩
        case measure => simp [intOf]; omega
      have b1' : (d.who != who) = false := by simp [bne, b1]
      cases b2 : (d.entry.topic.toList == topic.toList)
      · have E := Lib.hid (Hoth.out (by simp [ofWho, b2]))
        clear Hoth Hbad Hgood
        go_wp2_with fail
        go_roundw
        case rel => exact ⟨k + 1, n, last, by omega, by go_num, rfl, rfl, rfl, by omega, E.out, (he.new _)⟩
        case measure => simp [intOf]; omega
      have Ho := Lib.hid (show ofWho d who topic = true by simp only [ofWho, b1, b2, Bool.and_self])
      by_cases b3 : d.entry.index = (n : Int)
      case neg =>
        have E := Lib.hid (Hbad.out Ho.out (fun h => b3 h.1))
        have b3' : (d.entry.index != (n : Int)) = true := by simpa using b3
        clear Hoth Hbad Hgood b3
        go_wp2_with fail
        go_ret
        exact ⟨ret_bool E.out.symm, he.new _⟩
      have b3' : (d.entry.index != (n : Int)) = false := by simpa using b3
      have B3 := Lib.hid b3
      clear b3
      by_cases b4 : n = 0
      · have E := Lib.hid (Hgood.out Ho.out ⟨B3.out, .inl b4⟩)
        subst b4
        clear Hoth Hbad Hgood
        go_wp2_with fail
        go_quiet (fail)
        go_wp2_with fail
        go_roundw
        case rel => exact ⟨k + 1, 0 + 1, d.leaf, by omega, by go_num, by go_num, rfl, by simp, by omega, E.out, (he.new _).drewN _⟩
        case measure => simp [intOf]; omega
      have b4' : (0 : Int) < (n : Int) := by omega
      have b5' : decide (n = 0) = false := by simpa using b4
      by_cases b6 : last < d.leaf
      · have E := Lib.hid (Hgood.out Ho.out ⟨B3.out, .inr b6⟩)
        clear Hoth Hbad Hgood b4
        go_wp2_with fail
        go_quiet (fail)
        go_wp2_with fail
        go_roundw
        case rel => exact ⟨k + 1, n + 1, d.leaf, by omega, by go_num, by go_num, rfl, by simp, by omega, E.out, (he.new _).drewN _⟩
        case measure => simp [intOf]; omega
      · have E := Lib.hid (Hbad.out Ho.out (fun h => by rcases h.2 with h | h <;> omega))
        clear Hoth Hbad Hgood b4
        go_wp2_with fail
        go_ret
        exact ⟨ret_bool E.out.symm, he.new _⟩
    · have E := Lib.hid (hi.done (by omega))
      clear hi
      go_wp2_with fail
      go_ret
      exact ⟨ret_bool E.out.symm, he⟩
end Go.Proofs.Ythkioaimcohecaa

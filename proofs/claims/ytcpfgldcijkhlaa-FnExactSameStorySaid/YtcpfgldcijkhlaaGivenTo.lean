/-
  GivenTo: plain, and walks. No condition.
-/
import Derived.Test.YtcpfgldcijkhlaaGapless
import Derived.Test.YtcpfgldcijkhlaaNest
namespace Go.Proofs.Ytcpfgldcijkhlaa
open Go.RowKit
set_option linter.unusedVariables false

/-- A slice of flat things in a row of the call's own. -/
def OwnF {α : Type} (f : α → List Value) (size : Nat) (t : TypeId) (W w : World) (v : Value) (l : List α) : Prop := w.ownsRow W.heap.size t size v l.length (l.flatMap f)
theorem OwnF.slf {α : Type} {f : α → List Value} {size : Nat} {t : TypeId} {W w : World} {v : Value} {l : List α} (h : OwnF f size t W w v l) : ∃ A c, v = .slice A l.length c ∧ SlF (FromB W.heap.size) f size w A l c := by
  have hr := h
  rcases hr.2 with ⟨h1, h2⟩ | ⟨g, cap, cur, hv, hg, hh, hnc, hm, hs, ht⟩
  · refine ⟨none, 0, by rw [h1, h2], ?_⟩
    obtain rfl : l = [] := List.eq_nil_of_length_eq_zero h2
    exact SlF.nil _ _ _ _
  · refine ⟨_, _, hv, ⟨hnc, hm, Reads.of_own (c := cap) (by rw [← hv]; exact h), fun _ a e => by cases e; exact hg⟩⟩
theorem OwnF.ext {α : Type} {f : α → List Value} {size : Nat} {t : TypeId} {W w w' : World} {v : Value} {l : List α} (h : OwnF f size t W w v l) (he : Ext w w') : OwnF f size t W w' v l := ownsRow_ext h he
theorem new_at (w : World) (cs : List Value) (t : TypeId) : ∀ j v, cs[j]? = some v → (w.alloc (.cells cs.toArray t)).cell? ((⟨w.heap.size, 0, none⟩ : Addr).add j) = some v := by
  intro j v hj
  rw [add_mk, (Blk.new w t cs.toArray).cell]; simpa using hj
theorem flat_snoc {α : Type} (f : α → List Value) (l : List α) (a : α) : l.flatMap f ++ f a = (l ++ [a]).flatMap f := by simp
theorem info_entry : (Try.prog.info? 25).map (fun i => (i.zero, i.size, i.bytes)) = some (some (.agg #[.string ⟨#[]⟩, .int .i64 0, .int .i64 0, .string ⟨#[]⟩, .string ⟨#[]⟩]), 5, 64) := by kernel_rfl
def givenTo (l : List GivenD) (who : Int) (topic : ByteArray) : List EntryD := if l.length ≤ 200 then (l.filter (fun x => ofWho x who topic)).map GivenD.entry else []
/-- What has been found of the first k. -/
def givenUp (l : List GivenD) (who : Int) (topic : ByteArray) (k : Nat) : List EntryD := ((l.take k).filter (fun x => ofWho x who topic)).map GivenD.entry
theorem givenUp_len (l : List GivenD) (who : Int) (topic : ByteArray) (k : Nat) : (givenUp l who topic k).length ≤ k := by
  unfold givenUp
  rw [List.length_map]
  exact Nat.le_trans (List.length_filter_le _ _) (by rw [List.length_take]; exact Nat.min_le_left _ _)
theorem givenUp_all {l : List GivenD} {who : Int} {topic : ByteArray} (h : l.length ≤ 200) : givenUp l who topic l.length = givenTo l who topic := by simp [givenUp, givenTo, h]
theorem givenTo_long {l : List GivenD} {who : Int} {topic : ByteArray} (h : ¬ l.length ≤ 200) : givenTo l who topic = [] := by rw [givenTo, if_neg h]
theorem givenUp_no {l : List GivenD} {who : Int} {topic : ByteArray} {k : Nat} {d : GivenD} (hd : l[k]? = some d) (h : ofWho d who topic = false) : givenUp l who topic (k + 1) = givenUp l who topic k := by
  obtain ⟨hk, rfl⟩ := List.getElem?_eq_some_iff.1 hd
  unfold givenUp
  rw [List.take_succ_eq_append_getElem hk, List.filter_append]
  simp [h]
theorem givenUp_yes {l : List GivenD} {who : Int} {topic : ByteArray} {k : Nat} {d : GivenD} (hd : l[k]? = some d) (h : ofWho d who topic = true) : givenUp l who topic (k + 1) = givenUp l who topic k ++ [d.entry] := by
  obtain ⟨hk, rfl⟩ := List.getElem?_eq_some_iff.1 hd
  unfold givenUp
  rw [List.take_succ_eq_append_getElem hk, List.filter_append]
  simp [h]
theorem givenTo_len (l : List GivenD) (who : Int) (topic : ByteArray) : (givenTo l who topic).length ≤ 200 := by
  unfold givenTo
  split
  · rw [List.length_map]; exact Nat.le_trans (List.length_filter_le _ _) (by assumption)
  · simp
theorem given_at {l : List GivenD} {w : World} {b off : Nat} {k : Nat} {d : GivenD} (hc : ∀ j u, (l.flatMap GivenD.cells)[k * 7 + j]? = some u → w.cell? ⟨b, off + k * 7 + j, none⟩ = some u) (hd : l[k]? = some d) :
    w.cell? ⟨b, off + k * 7, none⟩ = some (.int .i64 d.who) ∧ w.cell? ⟨b, off + k * 7 + 1, none⟩ = some (.int .i64 d.leaf) ∧ w.cell? ⟨b, off + k * 7 + 2, none⟩ = some (.string d.entry.topic) ∧ w.cell? ⟨b, off + k * 7 + 3, none⟩ = some (.int .i64 d.entry.index) ∧ w.cell? ⟨b, off + k * 7 + 4, none⟩ = some (.int .i64 d.entry.time) ∧ w.cell? ⟨b, off + k * 7 + 5, none⟩ = some (.string d.entry.key) ∧ w.cell? ⟨b, off + k * 7 + 6, none⟩ = some (.string d.entry.body) :=
  ⟨hc 0 _ (flat_at _ 7 GivenD.cells_length l k 0 d hd (by omega)), hc 1 _ (flat_at _ 7 GivenD.cells_length l k 1 d hd (by omega)), hc 2 _ (flat_at _ 7 GivenD.cells_length l k 2 d hd (by omega)), hc 3 _ (flat_at _ 7 GivenD.cells_length l k 3 d hd (by omega)), hc 4 _ (flat_at _ 7 GivenD.cells_length l k 4 d hd (by omega)), hc 5 _ (flat_at _ 7 GivenD.cells_length l k 5 d hd (by omega)), hc 6 _ (flat_at _ 7 GivenD.cells_length l k 6 d hd (by omega))⟩
set_option maxHeartbeats 2000000 in
set_option maxRecDepth 100000 in
theorem implGivenTo_any (A : Option Addr) (c : Nat) (l : List GivenD) (who : Int) (topic : ByteArray) (w : World) (hr : ReadsL w w.heap.size GivenD.cells 7 A l) (hl : l.length ≤ 1048576) :
    Calls Try.prog 27 #[.slice A l.length c, .int .i64 who, .string topic] w fun e w' => ∃ v, e = .returned v ∧ OwnF EntryD.cells 5 25 w w' v (givenTo l who topic) ∧ Ext w w' := by
  by_cases hs : l.length ≤ 200
  case neg =>
    have hd : decide (l.length ≤ 200) = false := by simpa using hs
    have O0 := Lib.hid (show OwnF EntryD.cells 5 25 w w (.slice none 0 0) (givenTo l who topic) by rw [givenTo_long hs]; exact World.ownsRow_nil _ _ _ _)
    go_enter Try.func27, Try.ntmps27
    go_wp2_with (go_at_call 95; refine (isSmall_any _ _ _ _).mono ?_; rintro e w' ⟨rfl, rfl⟩)
    go_ret
    exact ⟨_, rfl, O0.out, Below.refl _ _⟩
  have hd : decide (l.length ≤ 200) = true := by simpa using hs
  obtain ⟨i0, hi, hz0, hz1, hz2⟩ := info_parts info_entry
  have H0 := Lib.hid (World.ownsRow_nil w w.heap.size 25 5)
  go_enter Try.func27, Try.ntmps27
  go_wp2_with (go_at_call 95; refine (isSmall_any _ _ _ _).mono ?_; rintro e w' ⟨rfl, rfl⟩)
  obtain ⟨B, hB⟩ : ∃ B, B = w.heap.size := ⟨_, rfl⟩
  rw [← hB] at H0
  have HB := Lib.hid hB
  have hb0 : w.heap.size ≤ B := by omega
  clear hB
  go_loopw [7, 15] (fun v x wr => ∃ (k : Nat), k ≤ l.length ∧ x = .int .i64 k ∧ wr.ownsRow B 25 5 v (givenUp l who topic k).length ((givenUp l who topic k).flatMap EntryD.cells) ∧ Ext w wr) (fun _ x _ => l.length - (intOf x).toNat)
  case atStart => exact ⟨0, Nat.zero_le _, rfl, by simpa [givenUp] using H0.out, Below.refl _ _⟩
  case round =>
    clear H0
    obtain ⟨k, hk, rfl, hown, he⟩ := hrel
    obtain ⟨V, cv, rfl, hnc⟩ := ownsRow_form hown
    have KO := Lib.hid hown; clear hown
    have hul := givenUp_len l who topic k
    by_cases hlt : k < l.length
    case neg =>
      obtain rfl : k = l.length := by omega
      have O1 : Hid (OwnF EntryD.cells 5 25 w wr (.slice V (givenUp l who topic l.length).length cv) (givenTo l who topic)) := Lib.hid (by have := KO.out; rw [HB.out] at this; unfold OwnF; rw [← givenUp_all hs]; exact this)
      clear KO
      go_wp2_with fail
      go_ret
      exact ⟨_, rfl, O1.out, he⟩
    obtain ⟨b, off, rfl, hb, hc⟩ := Reads.at_ (hr.ext he) (k := k) hlt
    obtain ⟨d, hd1⟩ : ∃ d, d = l[k] := ⟨_, rfl⟩
    have hdl : l[k]? = some d := by rw [hd1]; exact List.getElem?_eq_getElem hlt
    obtain ⟨c0, c1, c2, c3, c4, c5, c6⟩ := given_at hc hdl
    have Hdl := Lib.hid hdl
    clear hc hd1 hdl
    cases b1 : (d.who == who)
    · have E := Lib.hid (givenUp_no (who := who) (topic := topic) Hdl.out (by simp [ofWho, b1]))
      go_wp2_with fail
      go_roundw
      case rel => exact ⟨k + 1, by omega, by go_num, by rw [E.out]; exact KO.out.alloc _, he.new _⟩
      case measure => simp [intOf]; omega
    cases b2 : (d.entry.topic.toList == topic.toList)
    · have E := Lib.hid (givenUp_no (who := who) (topic := topic) Hdl.out (by simp [ofWho, b2]))
      go_wp2_with fail
      go_roundw
      case rel => exact ⟨k + 1, by omega, by go_num, by rw [E.out]; exact KO.out.alloc _, he.new _⟩
      case measure => simp [intOf]; omega
    have E := Lib.hid (givenUp_yes (who := who) (topic := topic) Hdl.out (by simp only [ofWho, b1, b2, Bool.and_self]))
    have hsz : B ≤ wr.heap.size := by have := he.size; have := HB.out; omega
    generalize givenUp l who topic k = u at *
    go_wp2_with (at_builtin; refine wpList_append_own _ rfl _ _ 55 rfl B 25 i0 (.agg #[.string ⟨#[]⟩, .int .i64 0, .int .i64 0, .string ⟨#[]⟩, .string ⟨#[]⟩]) 5 64 Try.underlying55 hi hz0 hz1 hz2 rfl (by decide) _ _ _ rfl ((KO.out.alloc _).alloc _) ⟨wr.heap.size + 1, 0, none⟩ 1 1 d.entry.cells rfl rfl ?c1 ?c2 ?c3 ?c4 ?c5 ?_)
    case c1 => exact fun j v hj => by have := new_at (wr.alloc (.cells #[.int .i64 d.who, .int .i64 d.leaf, .string d.entry.topic, .int .i64 d.entry.index, .int .i64 d.entry.time, .string d.entry.key, .string d.entry.body] 161)) d.entry.cells 25 j v hj; rw [World.size_alloc] at this; exact this
    case c2 => intro v hv; simp [EntryD.cells] at hv; rcases hv with rfl | rfl | rfl | rfl | rfl <;> rfl
    case c3 => unfold maxLen; omega
    case c4 => omega
    case c5 => simp; omega
    intro v' w2 hown' hgrow _
    have he1 := Ext.ownGrown (Ext.new (Ext.new he _) _) ((KO.out.alloc _).alloc _) hgrow hb0
    rw [flat_snoc, ← E.out] at hown'
    have KO' := Lib.hid hown'
    clear hown' hgrow KO he
    go_wp2_with fail
    go_roundw
    case rel => exact ⟨k + 1, by omega, by go_num, by rw [E.out, List.length_append, List.length_singleton]; have := KO'.out; rw [E.out] at this; exact this, he1⟩
    case measure => simp [intOf]; omega
set_option maxHeartbeats 2000000 in
set_option maxRecDepth 100000 in
theorem specGivenTo_any (A : Option Addr) (c : Nat) (l : List GivenD) (who : Int) (topic : ByteArray) (w : World) (hr : ReadsL w w.heap.size GivenD.cells 7 A l) (hl : l.length ≤ 1048576) :
    Calls Try.prog 25 #[.slice A l.length c, .int .i64 who, .string topic] w fun e w' => ∃ v, e = .returned v ∧ OwnF EntryD.cells 5 25 w w' v (givenTo l who topic) ∧ Ext w w' := by
  have H0 := Lib.hid (ownsRow_empty w 25 5)
  have E0 := Lib.hid (Ext.new (Below.refl w.heap.size w) (.cells #[] 25))
  by_cases hs : l.length ≤ 200
  case neg =>
    have hd : decide (l.length ≤ 200) = false := by simpa using hs
    have hpos : (0 : Int) < (l.length : Int) := by omega
    have hpos2 : decide ((0 : Int) < (l.length : Int)) = true := by rw [decide_eq_true_eq]; omega
    have hpos3 : 0 < l.length := by omega
    have O0 := Lib.hid (show OwnF EntryD.cells 5 25 w (w.alloc (.cells #[] 25)) (.slice (some ⟨w.heap.size, 0, none⟩) 0 0) (givenTo l who topic) by rw [givenTo_long hs]; exact H0.out)
    go_enter Try.func25, Try.ntmps25
    go_wp2_with fail
    refine wp_loop_rounds 1 ?_
    rw [rounds_succ]
    go_wp2_with (go_at_call 93; refine (l23Small_any _ _ _ _).mono ?_; rintro e w' ⟨rfl, rfl⟩)
    go_ret
    exact ⟨_, rfl, O0.out, E0.out⟩
  have hd : decide (l.length ≤ 200) = true := by simpa using hs
  obtain ⟨i0, hi, hz0, hz1, hz2⟩ := info_parts info_entry
  go_enter Try.func25, Try.ntmps25
  go_wp2_with fail
  obtain ⟨B, hB⟩ : ∃ B, B = w.heap.size := ⟨_, rfl⟩
  rw [← hB] at H0
  rw [← hB]
  have HB := Lib.hid hB
  have hb0 : w.heap.size ≤ B := by omega
  clear hB
  go_loopw [7, 8] (fun v x wr => ∃ (k : Nat), k ≤ l.length ∧ x = .int .i64 k ∧ wr.ownsRow B 25 5 v (givenUp l who topic k).length ((givenUp l who topic k).flatMap EntryD.cells) ∧ Ext w wr) (fun _ x _ => l.length - (intOf x).toNat)
  case atStart => exact ⟨0, Nat.zero_le _, rfl, by simpa [givenUp] using H0.out, E0.out⟩
  case round =>
    clear H0 E0
    obtain ⟨k, hk, rfl, hown, he⟩ := hrel
    obtain ⟨V, cv, rfl, hnc⟩ := ownsRow_form hown
    have KO := Lib.hid hown; clear hown
    have hul := givenUp_len l who topic k
    by_cases hlt : k < l.length
    case neg =>
      obtain rfl : k = l.length := by omega
      have O1 : Hid (OwnF EntryD.cells 5 25 w wr (.slice V (givenUp l who topic l.length).length cv) (givenTo l who topic)) := Lib.hid (by have := KO.out; rw [HB.out] at this; unfold OwnF; rw [← givenUp_all hs]; exact this)
      clear KO
      have d1 : decide ((l.length : Int) < (l.length : Int)) = false := by simp
      go_wp2_with (go_at_call 93; refine (l23Small_any _ _ _ _).mono ?_; rintro e w' ⟨rfl, rfl⟩)
      go_ret
      exact ⟨_, rfl, O1.out, he⟩
    obtain ⟨b, off, rfl, hb, hc⟩ := Reads.at_ (hr.ext he) (k := k) hlt
    obtain ⟨d, hd1⟩ : ∃ d, d = l[k] := ⟨_, rfl⟩
    have hdl : l[k]? = some d := by rw [hd1]; exact List.getElem?_eq_getElem hlt
    obtain ⟨c0, c1, c2, c3, c4, c5, c6⟩ := given_at hc hdl
    have Hdl := Lib.hid hdl
    clear hc hd1 hdl
    have d1 : decide ((k : Int) < (l.length : Int)) = true := by rw [decide_eq_true_eq]; omega
    cases b1 : (d.who == who)
    · have E := Lib.hid (givenUp_no (who := who) (topic := topic) Hdl.out (by simp [ofWho, b1]))
      go_wp2_with (go_at_call 93; refine (l23Small_any _ _ _ _).mono ?_; rintro e w' ⟨rfl, rfl⟩)
      go_roundw
      case rel => exact ⟨k + 1, by omega, by go_num, by rw [E.out]; exact KO.out, he⟩
      case measure => simp [intOf]; omega
    cases b2 : (d.entry.topic.toList == topic.toList)
    · have E := Lib.hid (givenUp_no (who := who) (topic := topic) Hdl.out (by simp [ofWho, b2]))
      go_wp2_with (go_at_call 93; refine (l23Small_any _ _ _ _).mono ?_; rintro e w' ⟨rfl, rfl⟩)
      go_roundw
      case rel => exact ⟨k + 1, by omega, by go_num, by rw [E.out]; exact KO.out, he⟩
      case measure => simp [intOf]; omega
    have E := Lib.hid (givenUp_yes (who := who) (topic := topic) Hdl.out (by simp only [ofWho, b1, b2, Bool.and_self]))
    have hsz : B ≤ wr.heap.size := by have := he.size; have := HB.out; omega
    generalize givenUp l who topic k = u at *
    go_wp2_with (first | (go_at_call 93; refine (l23Small_any _ _ _ _).mono ?_; rintro e w' ⟨rfl, rfl⟩) | (at_builtin; refine wpList_append_own _ rfl _ _ 55 rfl B 25 i0 (.agg #[.string ⟨#[]⟩, .int .i64 0, .int .i64 0, .string ⟨#[]⟩, .string ⟨#[]⟩]) 5 64 Try.underlying55 hi hz0 hz1 hz2 rfl (by decide) _ _ _ rfl (KO.out.alloc _) ⟨wr.heap.size, 0, none⟩ 1 1 d.entry.cells rfl rfl ?c1 ?c2 ?c3 ?c4 ?c5 ?_))
    case c1 => exact fun j v hj => by exact new_at wr d.entry.cells 25 j v hj
    case c2 => intro v hv; simp [EntryD.cells] at hv; rcases hv with rfl | rfl | rfl | rfl | rfl <;> rfl
    case c3 => unfold maxLen; omega
    case c4 => omega
    case c5 => simp; omega
    intro v' w2 hown' hgrow _
    have he1 := Ext.ownGrown (Ext.new he _) (KO.out.alloc _) hgrow hb0
    rw [flat_snoc, ← E.out] at hown'
    have KO' := Lib.hid hown'
    clear hown' hgrow KO he
    go_wp2_with (go_at_call 93; refine (l23Small_any _ _ _ _).mono ?_; rintro e w' ⟨rfl, rfl⟩)
    go_roundw
    case rel => exact ⟨k + 1, by omega, by go_num, by rw [E.out, List.length_append, List.length_singleton]; have := KO'.out; rw [E.out] at this; exact this, he1⟩
    case measure => simp [intOf]; omega
end Go.Proofs.Ytcpfgldcijkhlaa

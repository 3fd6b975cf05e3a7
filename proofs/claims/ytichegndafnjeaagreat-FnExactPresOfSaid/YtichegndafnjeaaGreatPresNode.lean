/-
  The texts that the proofs hash, as pairs: walks. No condition.
-/
import Derived.Test.YtichegndafnjeaaGreatPres0
import Derived.Test.YtichegndafnjeaaGreatPathTop
import Derived.Test.YtichegndafnjeaaGreatReread
import Derived.Test.YtichegndafnjeaaGreatMeetImpl
namespace Go.Proofs.YtichegndafnjeaaGreat
open Go.RowKit
set_option linter.unusedVariables false

theorem info_pre : (Tryz.prog.info? 25).map (fun i => (i.zero, i.size, i.bytes)) = some (some (.agg #[.int .i64 0, .string ⟨#[]⟩]), 2, 24) := by kernel_rfl
abbrev OwnP (W w : World) (v : Value) (ps : List PreD) : Prop := OwnF PreD.cells 2 25 W w v ps
/-- Rows of two kinds of elements lie apart. -/
theorem own_other {w : World} {K K' e e' size size' n n' : Nat} {v v' : Value} {xs xs' : List Value} (h : w.ownsRow K e size v n xs) (h' : w.ownsRow K' e' size' v' n' xs') (hne : e ≠ e') : v.ownBlock = none ∨ v.ownBlock ≠ v'.ownBlock := by
  rcases h.2 with ⟨h1, _⟩ | ⟨b, cap, cur, hv, hb, hh, hrest⟩
  · left; rw [h1]; rfl
  · right
    intro hg
    rcases h'.2 with ⟨h1, _⟩ | ⟨b', cap', cur', hv', hb', hh', hrest'⟩
    · rw [hv, h1] at hg; cases hg
    · rw [hv, hv'] at hg
      obtain rfl : b = b' := by simpa [Value.ownBlock] using hg
      rw [hh] at hh'
      exact hne (by simp at hh'; exact hh'.2)
theorem OwnF.base {α : Type} {f : α → List Value} {size : Nat} {t : TypeId} {W W' w : World} {v : Value} {l : List α} (h : OwnF f size t W w v l) (hB : W'.heap.size ≤ W.heap.size) : OwnF f size t W' w v l := ownsRow_base h hB
theorem nodesUp {ps : List PreD} {ts : List ByteArray} {k : Nat} (hk : k < ts.length) : ps ++ nodesP (ts.take (k + 1)) = (ps ++ nodesP (ts.take k)) ++ [nodeP ts[k]] := by rw [nodesP_take hk, List.append_assoc]
theorem nodesUp_len (ps : List PreD) (ts : List ByteArray) (k : Nat) : (ps ++ nodesP (ts.take k)).length ≤ ps.length + ts.length := by
  rw [List.length_append, nodesP_len, List.length_take]; omega
set_option maxHeartbeats 2000000 in
set_option maxRecDepth 100000 in
theorem nodePres_any (W w : World) (K : Nat) (v vt : Value) (ps : List PreD) (ts : List ByteArray) (he : Ext W w) (hO : OwnP W w v ps) (hT : OwnT K w vt ts) (hl : ps.length + ts.length ≤ 1048576) :
    Calls Tryz.prog 51 #[v, vt] w fun e w' => ∃ v', e = .returned v' ∧ OwnP W w' v' (ps ++ nodesP ts) ∧ Ext W w' := by
  obtain ⟨i0, hi, hz0, hz1, hz2⟩ := info_parts info_pre
  obtain ⟨At, ct, rfl, hct, _⟩ := hT.reads
  have HO := Lib.hid hO; clear hO
  have HT := Lib.hid hT; clear hT
  go_enter Tryz.func51, Tryz.ntmps51
  go_wp2_with fail
  go_loopw [0, 9] (fun x i wr => ∃ (k : Nat), k ≤ ts.length ∧ i = .int .i64 k ∧ OwnP W wr x (ps ++ nodesP (ts.take k)) ∧ OwnT K wr (.slice At ts.length ct) ts ∧ Ext W wr) (fun _ i _ => ts.length - (intOf i).toNat)
  case atStart => exact ⟨0, Nat.zero_le _, rfl, by simpa [nodesP] using HO.out, HT.out, he⟩
  case round =>
    clear HO HT he
    obtain ⟨k, hk, rfl, hown, hT, he⟩ := hrel
    obtain ⟨V, cv, rfl, hnc⟩ := ownsRow_form hown
    obtain ⟨_, _, e2, _, hrt⟩ := hT.reads
    obtain ⟨rfl, rfl⟩ : At = _ ∧ ct = _ := by simpa using e2
    have KO := Lib.hid hown; clear hown
    have KT := Lib.hid hT; clear hT e2
    by_cases hlt : k < ts.length
    case neg =>
      obtain rfl : k = ts.length := by omega
      have O1 := Lib.hid (show OwnP W wr (.slice V (ps ++ nodesP (ts.take ts.length)).length cv) (ps ++ nodesP ts) by have := KO.out; rw [List.take_length] at this ⊢; exact this)
      clear KO KT hrt
      go_wp2_with fail
      go_ret
      exact ⟨_, rfl, O1.out, he⟩
    obtain ⟨b, off, rfl, hb, hc⟩ := Reads.at_ hrt (k := k) hlt
    have hdl : ts[k]? = some ts[k] := List.getElem?_eq_getElem hlt
    have c0 := hc 0 _ (flat_at _ 1 sone_length ts k 0 _ hdl (by omega))
    rw [Nat.add_zero, Nat.mul_one] at c0
    clear hc hdl hrt
    have E := Lib.hid (nodesUp (ps := ps) hlt)
    have hul := nodesUp_len ps ts k
    generalize ps ++ nodesP (ts.take k) = u at *
    generalize ts[k] = x at *
    have hsz := he.size
    go_wp2_with (at_builtin; refine wpList_append_own _ rfl _ _ 43 rfl W.heap.size 25 i0 (.agg #[.int .i64 0, .string ⟨#[]⟩]) 2 24 Tryz.underlying43 hi hz0 hz1 hz2 rfl (by decide) _ _ _ rfl (KO.out.alloc _) ⟨wr.heap.size, 0, none⟩ 1 1 (nodeP x).cells rfl rfl ?c1 ?c2 ?c3 ?c4 ?c5 ?_)
    case c1 => exact fun j v hj => by exact new_at wr (nodeP x).cells 25 j v hj
    case c2 => intro v hv; simp [PreD.cells, nodeP] at hv; rcases hv with rfl | rfl <;> rfl
    case c3 => unfold maxLen; omega
    case c4 => omega
    case c5 => simp; omega
    intro v' w2 hown' hgrow _
    have he1 := Ext.ownGrown (Ext.new he _) (KO.out.alloc _) hgrow (Nat.le_refl _)
    have kt := Lib.hid (World.ownsRow.kept (World.ownsRow.alloc KT.out _) hgrow (own_other KT.out KO.out (by decide)))
    rw [flat_snoc, ← E.out] at hown'
    have KO' := Lib.hid hown'
    clear hown' hgrow KO KT he
    go_wp2_with fail
    go_roundw
    case rel => exact ⟨k + 1, by omega, by go_num, by have := KO'.out; unfold OwnP OwnF; rw [E.out] at this ⊢; rw [List.length_append, List.length_singleton]; exact this, kt.out, he1⟩
    case measure => simp [intOf]; omega
set_option maxHeartbeats 2000000 in
set_option maxRecDepth 100000 in
theorem l20Nodes_any (w : World) (K : Nat) (vt : Value) (ts : List ByteArray) (hT : OwnT K w vt ts) (hl : ts.length ≤ 1048576) :
    Calls Tryz.prog 37 #[vt] w fun e w' => ∃ v', e = .returned v' ∧ OwnP w w' v' (nodesP ts) ∧ Ext w w' := by
  obtain ⟨i0, hi, hz0, hz1, hz2⟩ := info_parts info_pre
  obtain ⟨At, ct, rfl, hct, _⟩ := hT.reads
  have H0 := Lib.hid (ownsRow_empty w 25 2)
  have HT := Lib.hid (World.ownsRow.alloc hT (.cells #[] 25)); clear hT
  have E0 := Lib.hid (Ext.new (Below.refl w.heap.size w) (.cells #[] 25))
  go_enter Tryz.func37, Tryz.ntmps37
  go_wp2_with fail
  go_loopw [3, 4] (fun x i wr => ∃ (k : Nat), k ≤ ts.length ∧ i = .int .i64 k ∧ OwnP w wr x ([] ++ nodesP (ts.take k)) ∧ OwnT K wr (.slice At ts.length ct) ts ∧ Ext w wr) (fun _ i _ => ts.length - (intOf i).toNat)
  case atStart => exact ⟨0, Nat.zero_le _, rfl, by simpa [nodesP, OwnF] using H0.out, HT.out, E0.out⟩
  case round =>
    clear H0 HT E0
    obtain ⟨k, hk, rfl, hown, hT, he⟩ := hrel
    obtain ⟨V, cv, rfl, hnc⟩ := ownsRow_form hown
    obtain ⟨_, _, e2, _, hrt⟩ := hT.reads
    obtain ⟨rfl, rfl⟩ : At = _ ∧ ct = _ := by simpa using e2
    have KO := Lib.hid hown; clear hown
    have KT := Lib.hid hT; clear hT e2
    by_cases hlt : k < ts.length
    case neg =>
      obtain rfl : k = ts.length := by omega
      have O1 := Lib.hid (show OwnP w wr (.slice V ([] ++ nodesP (ts.take ts.length)).length cv) (nodesP ts) by have := KO.out; rw [List.take_length, List.nil_append] at this ⊢; exact this)
      clear KO KT hrt
      have d1 : decide ((ts.length : Int) < (ts.length : Int)) = false := by simp
      go_wp2_with fail
      go_ret
      exact ⟨_, rfl, O1.out, he⟩
    obtain ⟨b, off, rfl, hb, hc⟩ := Reads.at_ hrt (k := k) hlt
    have hdl : ts[k]? = some ts[k] := List.getElem?_eq_getElem hlt
    have c0 := hc 0 _ (flat_at _ 1 sone_length ts k 0 _ hdl (by omega))
    rw [Nat.add_zero, Nat.mul_one] at c0
    clear hc hdl hrt
    have E := Lib.hid (nodesUp (ps := []) hlt)
    have hul := nodesUp_len [] ts k
    rw [List.length_nil, Nat.zero_add] at hul
    generalize [] ++ nodesP (ts.take k) = u at *
    generalize ts[k] = x at *
    have hsz := he.size
    have d1 : decide ((k : Int) < (ts.length : Int)) = true := by rw [decide_eq_true_eq]; omega
    go_wp2_with (at_builtin; refine wpList_append_own _ rfl _ _ 43 rfl w.heap.size 25 i0 (.agg #[.int .i64 0, .string ⟨#[]⟩]) 2 24 Tryz.underlying43 hi hz0 hz1 hz2 rfl (by decide) _ _ _ rfl (KO.out.alloc _) ⟨wr.heap.size, 0, none⟩ 1 1 (nodeP x).cells rfl rfl ?c1 ?c2 ?c3 ?c4 ?c5 ?_)
    case c1 => exact fun j v hj => by exact new_at wr (nodeP x).cells 25 j v hj
    case c2 => intro v hv; simp [PreD.cells, nodeP] at hv; rcases hv with rfl | rfl <;> rfl
    case c3 => unfold maxLen; omega
    case c4 => omega
    case c5 => simp; omega
    intro v' w2 hown' hgrow _
    have he1 := Ext.ownGrown (Ext.new he _) (KO.out.alloc _) hgrow (Nat.le_refl _)
    have kt := Lib.hid (World.ownsRow.kept (World.ownsRow.alloc KT.out _) hgrow (own_other KT.out KO.out (by decide)))
    rw [flat_snoc, ← E.out] at hown'
    have KO' := Lib.hid hown'
    clear hown' hgrow KO KT he
    go_wp2_with fail
    go_roundw
    case rel => exact ⟨k + 1, by omega, by go_num, by have := KO'.out; unfold OwnP OwnF; rw [E.out] at this ⊢; rw [List.length_append, List.length_singleton]; exact this, kt.out, he1⟩
    case measure => simp [intOf]; omega
end Go.Proofs.YtichegndafnjeaaGreat

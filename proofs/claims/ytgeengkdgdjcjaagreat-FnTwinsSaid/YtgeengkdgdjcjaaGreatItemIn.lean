/-
  PresNode; PresText; StoreL; ItemIn: No condition.
-/
import Derived.Test.YtgeengkdgdjcjaaGreatPres0
import Derived.Test.YtgeengkdgdjcjaaGreatPathTop
import Derived.Test.YtgeengkdgdjcjaaGreatMapStr
import Derived.Test.YtgeengkdgdjcjaaGreatMeetImpl
import Derived.Test.YtgeengkdgdjcjaaGreatNString
import Derived.Test.YtgeengkdgdjcjaaGreatNItem
namespace Go.Proofs.YtgeengkdgdjcjaaGreat
set_option maxHeartbeats 2000000
set_option maxRecDepth 100000
set_option linter.unusedSimpArgs false
open Go.RowKit
set_option linter.unusedVariables false
theorem info_pre : (Tryz.prog.info? 88).map (fun i => (i.zero, i.size, i.bytes)) = some (some (.agg #[.int .i64 0, .string ⟨#[]⟩]), 2, 24) := by kernel_rfl
abbrev OwnP (W w : World) (v : Value) (ps : List PreD) : Prop := OwnF PreD.cells 2 88 W w v ps
theorem own_other {w : World} {K K' e e' size size' n n' : Nat} {v v' : Value} {xs xs' : List Value} (h : w.ownsRow K e size v n xs) (h' : w.ownsRow K' e' size' v' n' xs') (hne : e ≠ e') : v.ownBlock = none ∨ v.ownBlock ≠ v'.ownBlock := by
 rcases h.2 with ⟨h1, _⟩ | ⟨b, cap, cur, hv, hb, hh, hrest⟩
 · left; rw [h1]; rfl
 · right
   intro hg
   rcases h'.2 with ⟨h1, _⟩ | ⟨b', cap', cur', hv', hb', hh', hrest'⟩
   · rw [hv, h1] at hg; cases hg
   · rw [hv, hv'] at hg
     obtain rfl : b = b' := by simpa [Value.ownBlock] using hg
     rw [hh] at hh'
     exact hne (by simp at hh'; exact hh'.2)
theorem OwnF.base {α : Type} {f : α → List Value} {size : Nat} {t : TypeId} {W W' w : World} {v : Value} {l : List α} (h : OwnF f size t W w v l) (hB : W'.heap.size ≤ W.heap.size) : OwnF f size t W' w v l := ownsRow_base h hB
theorem nodesUp {ps : List PreD} {ts : List ByteArray} {k : Nat} (hk : k < ts.length) : ps ++ nodesP (ts.take (k + 1)) = (ps ++ nodesP (ts.take k)) ++ [nodeP ts[k]] := by rw [nodesP_take hk, List.append_assoc]
theorem nodesUp_len (ps : List PreD) (ts : List ByteArray) (k : Nat) : (ps ++ nodesP (ts.take k)).length ≤ ps.length + ts.length := by
 rw [List.length_append, nodesP_len, List.length_take]; omega
theorem nodePres_any (W w : World) (K : Nat) (v vt : Value) (ps : List PreD) (ts : List ByteArray) (he : Ext W w) (hO : OwnP W w v ps) (hT : OwnT K w vt ts) (hl : ps.length + ts.length ≤ 1048576) :
 Calls Tryz.prog 90 #[v, vt] w fun e w' => ∃ v', e = .returned v' ∧ OwnP W w' v' (ps ++ nodesP ts) ∧ Ext W w' := by
 obtain ⟨i0, hi, hz0, hz1, hz2⟩ := info_parts info_pre
 obtain ⟨At, ct, rfl, hct, _⟩ := hT.reads
 have HO := hU hO; clear hO
 have HT := hU hT; clear hT
 go_enter Tryz.func90, Tryz.ntmps90
 go_wp2_with fail
 go_loopw [0, 9] (fun x i wr => ∃ (k : Nat), k ≤ ts.length ∧ i = .int .i64 k ∧ OwnP W wr x (ps ++ nodesP (ts.take k)) ∧ OwnT K wr (.slice At ts.length ct) ts ∧ Ext W wr) (fun _ i _ => ts.length - (intOf i).toNat)
 case atStart => exact ⟨0, Nat.zero_le _, rfl, by simpa [nodesP] using HO.out, HT.out, he⟩
 case round =>
  clear HO HT he
  obtain ⟨k, hk, rfl, hown, hT, he⟩ := hrel
  obtain ⟨V, cv, rfl, hnc⟩ := ownsRow_form hown
  obtain ⟨_, _, e2, _, hrt⟩ := hT.reads
  obtain ⟨rfl, rfl⟩ : At = _ ∧ ct = _ := by simpa using e2
  have KO := hU hown; clear hown
  have KT := hU hT; clear hT e2
  by_cases hlt : k < ts.length
  case neg =>
   obtain rfl : k = ts.length := by omega
   have O1 := hU (show OwnP W wr (.slice V (ps ++ nodesP (ts.take ts.length)).length cv) (ps ++ nodesP ts) by have := KO.out; rw [List.take_length] at this ⊢; exact this)
   clear KO KT hrt
   go_wp2_with fail
   go_ret
   exact ⟨_, rfl, O1.out, he⟩
  obtain ⟨b, off, rfl, hb, hc⟩ := Reads.at_ hrt (k := k) hlt
  have hdl : ts[k]? = some ts[k] := List.getElem?_eq_getElem hlt
  have c0 := hc 0 _ (flat_at _ 1 sone_length ts k 0 _ hdl (by omega))
  rw [Nat.add_zero, Nat.mul_one] at c0
  clear hc hdl hrt
  have E := hU (nodesUp (ps := ps) hlt)
  have hul := nodesUp_len ps ts k
  generalize ps ++ nodesP (ts.take k) = u at *
  generalize ts[k] = x at *
  have hsz := he.size
  go_wp2_with (at_builtin; refine wpList_append_own _ rfl _ _ 83 rfl W.heap.size 88 i0 (.agg #[.int .i64 0, .string ⟨#[]⟩]) 2 24 Tryz.underlying83 hi hz0 hz1 hz2 rfl (by decide) _ _ _ rfl (KO.out.alloc _) ⟨wr.heap.size, 0, none⟩ 1 1 (nodeP x).cells rfl rfl ?c1 ?c2 ?c3 ?c4 ?c5 ?_)
  case c1 => exact fun j v hj => by exact new_at wr (nodeP x).cells 88 j v hj
  case c2 => intro v hv; simp [PreD.cells, nodeP] at hv; rcases hv with rfl | rfl <;> rfl
  case c3 => unfold maxLen; omega
  case c4 => omega
  case c5 => simp; omega
  intro v' w2 hown' hgrow _
  have he1 := Ext.ownGrown (Ext.new he _) (KO.out.alloc _) hgrow (Nat.le_refl _)
  have kt := hU (World.ownsRow.kept (World.ownsRow.alloc KT.out _) hgrow (own_other KT.out KO.out (by decide)))
  rw [flat_snoc, ← E.out] at hown'
  have KO' := hU hown'
  clear hown' hgrow KO KT he
  go_wp2_with fail
  go_roundw
  case rel => exact ⟨k + 1, by omega, by go_num, by have := KO'.out; unfold OwnP OwnF; rw [E.out] at this ⊢; rw [List.length_append, List.length_singleton]; exact this, kt.out, he1⟩
  case measure => simp [intOf]; omega
theorem pre_cells (ps : List PreD) : ∀ u ∈ ps.flatMap PreD.cells, u.oneCell' = true := by
 intro u hu
 obtain ⟨p, _, h⟩ := List.mem_flatMap.1 hu
 simp [PreD.cells] at h
 rcases h with rfl | rfl <;> rfl
theorem implTextsIn_any (wd n a : Int) (leaf : ByteArray) (A : Option Addr) (c : Nat) (l : List ByteArray) (w : World) (hlf : leaf.size ≤ maxLen) (hlc : l.length ≤ c) (hl : l.length ≤ 1048576) (hr : ReadsL w w.heap.size sone 1 A l) :
 Calls Tryz.prog 156 #[.int .i64 wd, .int .i64 n, .int .i64 a, .string leaf, .slice A l.length c] w fun e w' => ∃ v, e = .returned (.tuple #[v, .bool (inOk wd n a leaf l)]) ∧ OwnT w.heap.size w' v (textsIn wd n a leaf l) ∧ Ext w w' := by
 go_enter Tryz.func156, Tryz.ntmps156
 go_wp2_with fail
 refine (rootBy_any _ _ _ _ _ _ _ _ hlf hlc hl hr).mono ?_
 rintro e w1 ⟨v, rfl, ho, h1⟩
 have HO := hU ho; clear ho
 go_wp2_with fail
 go_ret2
 exact ⟨_, rfl, HO.out, h1⟩
theorem implTextsBetween_any (wd a : Int) (root : ByteArray) (n : Int) (A : Option Addr) (c : Nat) (l : List ByteArray) (w : World) (hlf : root.size ≤ maxLen) (hlc : l.length ≤ c) (hl : l.length ≤ 1048576) (hr : ReadsL w w.heap.size sone 1 A l) :
 Calls Tryz.prog 89 #[.int .i64 wd, .int .i64 a, .string root, .int .i64 n, .slice A l.length c] w fun e w' => ∃ v, e = .returned (.tuple #[v, .bool (betwOk wd a root n l)]) ∧ OwnT w.heap.size w' v (textsB wd a root n l) ∧ Ext w w' := by
 go_enter Tryz.func89, Tryz.ntmps89
 go_wp2_with fail
 refine (rootsBy_any _ _ _ _ _ _ _ _ hlf hlc hl hr).mono ?_
 rintro e w1 ⟨v, rfl, ho, h1⟩
 have HO := hU ho; clear ho
 go_wp2_with fail
 go_ret2
 exact ⟨_, rfl, HO.out, h1⟩
theorem wpList_store_list {P : Program} {ops : Array Oper} {rest : List Oper} {op : Oper} {a : Act} {w : World} {Q : Exit → Act → World → Prop} (hgd : op.guard = none) (ty : TypeId) (x y : Operand) (ho : op.op = .store ty x y) (hd : op.dst = none)
 (b o : Nat) (cells : List Value) (hx : a.eval x = .pointer (some ⟨b, o, none⟩)) (hy : a.eval y = .agg cells.toArray)
 (ht : w.there b o cells.length) (hi : (P.info? ty).map (·.size) = some cells.length) (h1 : cells.all (·.oneCell') = true)
 (h : wpList P ops Q rest a (w.setCells b o cells)) : wpList P ops Q (op :: rest) a w :=
 wpList_store_mid hgd ty x y ho b o cells.toArray hx hy (by simpa using ht) (by simpa using hi) (all_oneCell_toArray (List.all_eq_true.1 h1)) (by rw [hd]; exact h)
theorem wp_store_lst {P : Program} {op : Oper} {a : Act} {w : World} {K : Act → World → Prop} {Q : Exit → Act → World → Prop} (ty : TypeId) (x y : Operand) (ho : op.op = .store ty x y) (hd : op.dst = none)
 (b o : Nat) (cells : List Value) (hx : a.eval x = .pointer (some ⟨b, o, none⟩)) (hy : a.eval y = .agg cells.toArray)
 (ht : w.there b o cells.length) (hi : (P.info? ty).map (·.size) = some cells.length) (h1 : cells.all (·.oneCell') = true)
 (h : K a (w.setCells b o cells)) : op.wp P a w K Q := wp_store_mid ty x y ho b o cells.toArray hx hy (by simpa using ht) (by simpa using hi) (all_oneCell_toArray (List.all_eq_true.1 h1)) (by rw [hd]; exact h)
theorem wpList_load_want {P : Program} {ops : Array Oper} {rest : List Oper} {op : Oper} {a : Act} {w : World} {Q : Exit → Act → World → Prop} (hw : Region.wanted op (yielded ops a.tmps) = true) (ty : TypeId) (x : Operand) (ho : op.op = .load ty x)
 (b o : Nat) (hx : a.eval x = .pointer (some ⟨b, o, none⟩)) (cs : List Value) (d : TypeDesc) (hc : w.rangeAt b o cs)
 (hu : P.underlying ty = some d) (hd : d.isRow = true) (hi : (P.info? ty).map (·.size) = some cs.length)
 (h : wpList P ops Q rest (a.put op.dst (.agg cs.toArray)) w) : wpList P ops Q (op :: rest) a w :=
 wpList_step fun K hK => by rw [if_pos hw]; exact wp_load_mid ty x ho b o hx cs d hc hu hd hi (hK _ _ h)
theorem ItemD.one {p : Nat → Prop} {w : World} {cs : List Value} {d : ItemD} (h : ItemD.In p w cs d) : cs.all (·.oneCell') = true := by
 obtain ⟨A0, c0, A1, c1, rfl, _⟩ := h; rfl
theorem ItemD.inExt {p : Nat → Prop} {w w' : World} {cs : List Value} {d : ItemD} (h : ItemD.In p w cs d) (he : Ext w w') : ItemD.In p w' cs d := ItemD.steady.1 h (he.keep p)
end Go.Proofs.YtgeengkdgdjcjaaGreat

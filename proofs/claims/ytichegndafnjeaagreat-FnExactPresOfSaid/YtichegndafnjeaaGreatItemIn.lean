/-
  The texts on the ways of proofs: walks. Written by program (gen_prestext.py). No condition.
  A store of a struct of many cells, told by a list. No condition.
  Items as opaque lists of cells: contracts. Written by program (gen_lawbig.py). No condition.
-/
import Derived.Test.YtichegndafnjeaaGreatPresNode
import Derived.Test.YtichegndafnjeaaGreatNest
import Derived.Test.YtichegndafnjeaaGreatNItem
namespace Go.Proofs.YtichegndafnjeaaGreat
open Go.RowKit
set_option linter.unusedVariables false

theorem sone_cells (ts : List ByteArray) : ∀ u ∈ ts.flatMap sone, u.oneCell' = true := by
  intro u hu
  obtain ⟨s, _, h⟩ := List.mem_flatMap.1 hu
  simp [sone] at h
  rw [h]; rfl
theorem pre_cells (ps : List PreD) : ∀ u ∈ ps.flatMap PreD.cells, u.oneCell' = true := by
  intro u hu
  obtain ⟨p, _, h⟩ := List.mem_flatMap.1 hu
  simp [PreD.cells] at h
  rcases h with rfl | rfl <;> rfl
theorem implTextsIn_any (wd n a : Int) (leaf : ByteArray) (A : Option Addr) (c : Nat) (l : List ByteArray) (w : World) (hlf : leaf.size ≤ maxLen) (hlc : l.length ≤ c) (hl : l.length ≤ 1048576) (hr : ReadsL w w.heap.size sone 1 A l) :
    Calls Tryz.prog 103 #[.int .i64 wd, .int .i64 n, .int .i64 a, .string leaf, .slice A l.length c] w fun e w' => ∃ v, e = .returned (.tuple #[v, .bool (inOk wd n a leaf l)]) ∧ OwnT w.heap.size w' v (textsIn wd n a leaf l) ∧ Ext w w' := by
  go_enter Tryz.func103, Tryz.ntmps103
  go_wp2_with fail
  refine (rootBy_any _ _ _ _ _ _ _ _ hlf hlc hl hr).mono ?_
  rintro e w1 ⟨v, rfl, ho, h1⟩
  have HO := Lib.hid ho; clear ho
  go_wp2_with fail
  go_ret2
  exact ⟨_, rfl, HO.out, h1⟩
theorem implTextsBetween_any (wd a : Int) (root : ByteArray) (n : Int) (A : Option Addr) (c : Nat) (l : List ByteArray) (w : World) (hlf : root.size ≤ maxLen) (hlc : l.length ≤ c) (hl : l.length ≤ 1048576) (hr : ReadsL w w.heap.size sone 1 A l) :
    Calls Tryz.prog 50 #[.int .i64 wd, .int .i64 a, .string root, .int .i64 n, .slice A l.length c] w fun e w' => ∃ v, e = .returned (.tuple #[v, .bool (betwOk wd a root n l)]) ∧ OwnT w.heap.size w' v (textsB wd a root n l) ∧ Ext w w' := by
  go_enter Tryz.func50, Tryz.ntmps50
  go_wp2_with fail
  refine (rootsBy_any _ _ _ _ _ _ _ _ hlf hlc hl hr).mono ?_
  rintro e w1 ⟨v, rfl, ho, h1⟩
  have HO := Lib.hid ho; clear ho
  go_wp2_with fail
  go_ret2
  exact ⟨_, rfl, HO.out, h1⟩
set_option maxHeartbeats 2000000 in
set_option maxRecDepth 100000 in
theorem specTextsIn_any (wd n a : Int) (leaf : ByteArray) (A : Option Addr) (c : Nat) (l : List ByteArray) (w : World) (hlf : leaf.size ≤ maxLen) (hlc : l.length ≤ c) (hl : l.length ≤ 1048576) (hr : ReadsL w w.heap.size sone 1 A l) :
    Calls Tryz.prog 40 #[.int .i64 wd, .int .i64 n, .int .i64 a, .string leaf, .slice A l.length c] w fun e w' => ∃ v, e = .returned (.tuple #[v, .bool (inOk wd n a leaf l)]) ∧ OwnT w.heap.size w' v (textsIn wd n a leaf l) ∧ Ext w w' := by
  obtain ⟨i0, hi, hz0, hz1, hz2⟩ := info_parts info_text
  have Hr := Lib.hid hr; clear hr
  have OK := fun w hr => l06InOk_any wd n a leaf A c l w hlf hl hr
  have OK := Lib.hid OK
  cases b : inOk wd n a leaf l
  · obtain ⟨r1, r2⟩ := bad_in b
    rw [b] at OK
    go_enter Tryz.func40, Tryz.ntmps40
    go_wp2_with fail
    refine (OK.out _ Hr.out).mono ?_
    rintro e w1 ⟨rfl, h1⟩
    have H0 := Lib.hid (ownsRow_base (ownsRow_empty w1 9 1) (B' := w.heap.size) h1.size)
    go_wp2_with fail
    go_ret2
    exact ⟨_, rfl, by rw [r2]; exact H0.out, h1.new _⟩
  · have HM := Lib.hid (show (textsIn wd n a leaf l).length ≤ 2000 from by have := (textsIn_small wd n a leaf l).1; omega)
    obtain ⟨⟨f0, f1⟩, f2, f3, ⟨f4, f5⟩, ⟨f6, f7⟩, f8⟩ := inOk_facts b
    have R1 : textsIn wd n a leaf l = (pathIn wd leaf n.toNat a.toNat l.reverse).2 := by rw [textsIn, if_pos b]
    rw [b] at OK
    rw [R1] at HM ⊢
    clear R1 b
    have F3 := Lib.hid (show ∀ s ∈ l, s.size ≤ 32 from fun s hs => by have := f3 s hs; omega)
    clear f3
    obtain ⟨n, rfl⟩ := Int.eq_ofNat_of_zero_le (show 0 ≤ n by omega)
    obtain ⟨a, rfl⟩ := Int.eq_ofNat_of_zero_le (show 0 ≤ a by omega)
    rw [Int.toNat_natCast, Int.toNat_natCast] at *
    have F8 := Lib.hid f8; clear f8
    go_enter Tryz.func40, Tryz.ntmps40
    go_wp2_with fail
    refine (OK.out _ Hr.out).mono ?_
    rintro e w1 ⟨rfl, h1⟩
    go_wp2_with fail
    refine (l06In_any wd leaf (by omega) c l.length l A n a _ rfl hlc hl F3.out F8.out (by omega) (by omega) (by omega) (Hr.out.ext h1)).mono ?_
    rintro e w2 ⟨v, rfl, O2, h2⟩
    have he := h1.next h2
    obtain ⟨A3, c3, rfl, _⟩ := O2.form
    clear h1 h2
    have B := Lib.hid (Blk.new w2 133 #[.string ⟨#[]⟩, .string (pathIn wd leaf n a l.reverse).1, .slice A3 (pathIn wd leaf n a l.reverse).2.length c3])
    have O3 := Lib.hid (World.ownsRow.alloc O2 (.cells #[.string ⟨#[]⟩, .string (pathIn wd leaf n a l.reverse).1, .slice A3 (pathIn wd leaf n a l.reverse).2.length c3] 133))
    replace he := Lib.hid (he.new (.cells #[.string ⟨#[]⟩, .string (pathIn wd leaf n a l.reverse).1, .slice A3 (pathIn wd leaf n a l.reverse).2.length c3] 133))
    clear O2
    go_upto_region 4 with fail
    obtain ⟨g, hg⟩ : ∃ g, g = w2.heap.size := ⟨_, rfl⟩
    rw [← hg] at B
    rw [← hg]
    clear hg
    generalize w2.alloc (.cells #[.string ⟨#[]⟩, .string (pathIn wd leaf n a l.reverse).1, .slice A3 (pathIn wd leaf n a l.reverse).2.length c3] 133) = w3 at *
    obtain ⟨hc, hf⟩ := (B.out.alloc (.cells #[] 9)).rules
    go_wp2_with (at_builtin; refine wpList_append_src rfl _ _ 39 rfl w.heap.size 9 i0 (.string ⟨#[]⟩) 1 16 Tryz.underlying39 hi hz0 hz1 hz2 rfl (by decide) _ _ _ rfl (ownsRow_base (ownsRow_empty w3 9 1) he.out.size) _ _ _ rfl (srcL_own (World.ownsRow.alloc O3.out (.cells #[] 9))) ?c1 ?c2 ?c3 ?c4 ?_)
    case c1 => exact sone_cells _
    case c2 => have := HM.out; unfold maxLen; omega
    case c3 => have := HM.out; omega
    case c4 => have := he.out.size; simp; omega
    intro v' w4 hown' hgrow
    have he1 := Ext.ownGrown (he.out.new (.cells #[] 9)) (ownsRow_base (ownsRow_empty w3 9 1) he.out.size) hgrow (Nat.le_refl _)
    have KO := Lib.hid hown'
    clear hown' hgrow
    go_wp2_with fail
    go_ret2
    exact ⟨_, rfl, KO.out, he1⟩
set_option maxHeartbeats 2000000 in
set_option maxRecDepth 100000 in
theorem specTextsBetween_any (wd a : Int) (root : ByteArray) (n : Int) (A : Option Addr) (c : Nat) (l : List ByteArray) (w : World) (hlf : root.size ≤ maxLen) (hlc : l.length ≤ c) (hl : l.length ≤ 1048576) (hr : ReadsL w w.heap.size sone 1 A l) :
    Calls Tryz.prog 36 #[.int .i64 wd, .int .i64 a, .string root, .int .i64 n, .slice A l.length c] w fun e w' => ∃ v, e = .returned (.tuple #[v, .bool (betwOk wd a root n l)]) ∧ OwnT w.heap.size w' v (textsB wd a root n l) ∧ Ext w w' := by
  obtain ⟨i0, hi, hz0, hz1, hz2⟩ := info_parts info_text
  have Hr := Lib.hid hr; clear hr
  have OK := fun w hr => l06BetweenOk_any wd a root n A c l w hlf hl hr
  have OK := Lib.hid OK
  cases b : betwOk wd a root n l
  · obtain ⟨r1, r0, r2⟩ := bad_betw b
    rw [b] at OK
    go_enter Tryz.func36, Tryz.ntmps36
    go_wp2_with fail
    refine (OK.out _ Hr.out).mono ?_
    rintro e w1 ⟨rfl, h1⟩
    have H0 := Lib.hid (ownsRow_base (ownsRow_empty w1 9 1) (B' := w.heap.size) h1.size)
    go_wp2_with fail
    go_ret2
    exact ⟨_, rfl, by rw [r2]; exact H0.out, h1.new _⟩
  · have HM := Lib.hid (show (textsB wd a root n l).length ≤ 2000 from by have := (textsB_small wd a root n l).1; omega)
    obtain ⟨⟨f0, f1⟩, f2, f3, f4, f5, f6, f8⟩ := betwOk_facts b
    have R1 : textsB wd a root n l = (pathB wd root a.toNat n.toNat true l.reverse).texts := by rw [textsB, if_pos b]
    rw [b] at OK
    rw [R1] at HM ⊢
    clear R1 b
    have F3 := Lib.hid (show ∀ s ∈ l, s.size ≤ 32 from fun s hs => by have := f3 s hs; omega)
    clear f3
    obtain ⟨n, rfl⟩ := Int.eq_ofNat_of_zero_le (show 0 ≤ n by omega)
    obtain ⟨a, rfl⟩ := Int.eq_ofNat_of_zero_le (show 0 ≤ a by omega)
    rw [Int.toNat_natCast, Int.toNat_natCast] at *
    have F8 := Lib.hid f8; clear f8
    go_enter Tryz.func36, Tryz.ntmps36
    go_wp2_with fail
    refine (OK.out _ Hr.out).mono ?_
    rintro e w1 ⟨rfl, h1⟩
    go_wp2_with fail
    refine (l06Between_any wd root (by omega) c l.length l A a n true _ rfl hlc hl F3.out F8.out (by omega) (by omega) (by omega) (Hr.out.ext h1)).mono ?_
    rintro e w2 ⟨v, rfl, O2, h2⟩
    have he := h1.next h2
    obtain ⟨A3, c3, rfl, _⟩ := O2.form
    clear h1 h2
    have B := Lib.hid (Blk.new w2 133 #[.string (pathB wd root a n true l.reverse).small, .string (pathB wd root a n true l.reverse).big, .slice A3 (pathB wd root a n true l.reverse).texts.length c3])
    have O3 := Lib.hid (World.ownsRow.alloc O2 (.cells #[.string (pathB wd root a n true l.reverse).small, .string (pathB wd root a n true l.reverse).big, .slice A3 (pathB wd root a n true l.reverse).texts.length c3] 133))
    replace he := Lib.hid (he.new (.cells #[.string (pathB wd root a n true l.reverse).small, .string (pathB wd root a n true l.reverse).big, .slice A3 (pathB wd root a n true l.reverse).texts.length c3] 133))
    clear O2
    go_upto_region 4 with fail
    obtain ⟨g, hg⟩ : ∃ g, g = w2.heap.size := ⟨_, rfl⟩
    rw [← hg] at B
    rw [← hg]
    clear hg
    generalize w2.alloc (.cells #[.string (pathB wd root a n true l.reverse).small, .string (pathB wd root a n true l.reverse).big, .slice A3 (pathB wd root a n true l.reverse).texts.length c3] 133) = w3 at *
    obtain ⟨hc, hf⟩ := (B.out.alloc (.cells #[] 9)).rules
    go_wp2_with (at_builtin; refine wpList_append_src rfl _ _ 39 rfl w.heap.size 9 i0 (.string ⟨#[]⟩) 1 16 Tryz.underlying39 hi hz0 hz1 hz2 rfl (by decide) _ _ _ rfl (ownsRow_base (ownsRow_empty w3 9 1) he.out.size) _ _ _ rfl (srcL_own (World.ownsRow.alloc O3.out (.cells #[] 9))) ?c1 ?c2 ?c3 ?c4 ?_)
    case c1 => exact sone_cells _
    case c2 => have := HM.out; unfold maxLen; omega
    case c3 => have := HM.out; omega
    case c4 => have := he.out.size; simp; omega
    intro v' w4 hown' hgrow
    have he1 := Ext.ownGrown (he.out.new (.cells #[] 9)) (ownsRow_base (ownsRow_empty w3 9 1) he.out.size) hgrow (Nat.le_refl _)
    have KO := Lib.hid hown'
    clear hown' hgrow
    go_wp2_with fail
    go_ret2
    exact ⟨_, rfl, KO.out, he1⟩
end Go.Proofs.YtichegndafnjeaaGreat
namespace Go.Proofs.YtichegndafnjeaaGreat
open Go.RowKit
set_option linter.unusedVariables false

theorem wpList_store_list {P : Program} {ops : Array Oper} {rest : List Oper} {op : Oper} {a : Act} {w : World} {Q : Exit → Act → World → Prop} (hgd : op.guard = none) (ty : TypeId) (x y : Operand) (ho : op.op = .store ty x y) (hd : op.dst = none)
    (b o : Nat) (cells : List Value) (hx : a.eval x = .pointer (some ⟨b, o, none⟩)) (hy : a.eval y = .agg cells.toArray)
    (ht : w.there b o cells.length) (hi : (P.info? ty).map (·.size) = some cells.length) (h1 : cells.all (·.oneCell') = true)
    (h : wpList P ops Q rest a (w.setCells b o cells)) : wpList P ops Q (op :: rest) a w :=
  wpList_store_mid hgd ty x y ho b o cells.toArray hx hy (by simpa using ht) (by simpa using hi) (all_oneCell_toArray (List.all_eq_true.1 h1)) (by rw [hd]; exact h)
end Go.Proofs.YtichegndafnjeaaGreat
namespace Go.Proofs.YtichegndafnjeaaGreat
open Go.RowKit
set_option linter.unusedVariables false

theorem ItemD.one {p : Nat → Prop} {w : World} {cs : List Value} {d : ItemD} (h : ItemD.In p w cs d) : cs.all (·.oneCell') = true := by
  obtain ⟨A0, c0, A1, c1, rfl, _⟩ := h; rfl
theorem ItemD.inExt {p : Nat → Prop} {w w' : World} {cs : List Value} {d : ItemD} (h : ItemD.In p w cs d) (he : Ext w w') : ItemD.In p w' cs d := ItemD.steady.1 h (he.keep p)
theorem ItemD.inAny {p : Nat → Prop} {w : World} {cs : List Value} {d : ItemD} (h : ItemD.In p w cs d) : ItemD.In AnyB w cs d := ItemD.steady.2 h (fun _ _ => trivial)
theorem szItem_in (d : ItemD) (cs : List Value) (left : Int) (w : World) (hok : d.Ok) (h : ItemD.In AnyB w cs d) (h0 : 0 ≤ left) (h1 : left ≤ 1048576) :
    Calls Tryz.prog 12 #[.agg cs.toArray, .int .i64 left] w fun e w' => e = .returned (.int .i64 (szL d.lens left)) ∧ Ext w w' := by
  obtain ⟨A0, c0, A1, c1, rfl, s0, s1⟩ := h
  exact szItem_any d A0 c0 A1 c1 left w hok s0 s1 h0 h1
theorem toItem_in (d : ItemD) (cs : List Value) (w : World) (h : ItemD.In AnyB w cs d) (hf : ∀ n ∈ d.lens, n ≤ 1048576) :
    Calls Tryz.prog 14 #[.agg cs.toArray] w fun e w' => ∃ cs', e = .returned (.agg cs'.toArray) ∧ ItemD.In (FromB w.heap.size) w' cs' d ∧ Ext w w' := by
  obtain ⟨A0, c0, A1, c1, rfl, s0, s1⟩ := h
  exact toItem_any d A0 c0 A1 c1 w s0 s1 hf
theorem eqItem_in (d : ItemD) (cs cs' : List Value) (w : World) (h : ItemD.In AnyB w cs d) (h' : ItemD.In AnyB w cs' d) (hf : ∀ n ∈ d.lens, n ≤ 1048576) :
    Calls Tryz.prog 17 #[.agg cs.toArray, .agg cs'.toArray] w fun e w' => e = .returned (.bool true) ∧ Ext w w' := by
  obtain ⟨A0, c0, A1, c1, rfl, s0, s1⟩ := h
  obtain ⟨B0, e0, B1, e1, rfl, t0, t1⟩ := h'
  exact eqItem_same d A0 c0 A1 c1 B0 e0 B1 e1 w s0 s1 t0 t1 hf
end Go.Proofs.YtichegndafnjeaaGreat

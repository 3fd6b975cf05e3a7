/-
  HeadsOks: No condition.
-/
import Derived.Test.YtlgdghpnfclgpaaGreatFollowsB
import Derived.Test.YtlgdghpnfclgpaaGreatBunch
namespace Go.Proofs.YtlgdghpnfclgpaaGreat
set_option maxHeartbeats 4000000
set_option maxRecDepth 100000
set_option linter.unusedSimpArgs false
open Go.RowKit
set_option linter.unusedVariables false
theorem heads_cells {w : World} {b off c : Nat} {l : List HeadD} (hr : SlF AnyB HeadD.cells 5 w (some ⟨b, off, none⟩) l c) {k : Nat} {d : HeadD} (hd : l[k]? = some d) :
 w.cell? ⟨b, off + k * 5, none⟩ = some (.int .i64 d.number) ∧ w.cell? ⟨b, off + k * 5 + 1, none⟩ = some (.int .i64 d.size) ∧ w.cell? ⟨b, off + k * 5 + 2, none⟩ = some (.string d.root) ∧ w.cell? ⟨b, off + k * 5 + 3, none⟩ = some (.int .i64 d.taken) ∧ w.cell? ⟨b, off + k * 5 + 4, none⟩ = some (.string d.takenRoot) := by
 obtain ⟨b', off', e, hb, hc⟩ := Reads.at_ hr.reads (k := k) (List.getElem?_eq_some_iff.1 hd).1
 cases e
 exact ⟨hc 0 _ (flat_at _ 5 HeadD.cells_length l k 0 d hd (by omega)), hc 1 _ (flat_at _ 5 HeadD.cells_length l k 1 d hd (by omega)), hc 2 _ (flat_at _ 5 HeadD.cells_length l k 2 d hd (by omega)), hc 3 _ (flat_at _ 5 HeadD.cells_length l k 3 d hd (by omega)), hc 4 _ (flat_at _ 5 HeadD.cells_length l k 4 d hd (by omega))⟩
theorem headAt_zero {n : Int} {l : List HeadD} {k : Nat} {d : HeadD} (hd : l[k]? = some d) (h0 : k = 0) : headAt n l k = (headOk n d && (d.number == (k : Int))) := by
 subst h0; rw [headAt, hd]; simp
theorem headAt_next {n : Int} {l : List HeadD} {k j : Nat} {d e : HeadD} (hd : l[k]? = some d) (hj : k = j + 1) (he : l[j]? = some e) : headAt n l k = (headOk n d && (d.number == (k : Int)) && followsB n e d) := by
 subst hj; rw [headAt, hd]; simp [he]
theorem headAt_bad {n : Int} {l : List HeadD} {k : Nat} {d : HeadD} (hd : l[k]? = some d) (h : (headOk n d && (d.number == (k : Int))) = false) : headAt n l k = false := by
 rw [headAt, hd]; simp only; rw [h, Bool.false_and]
theorem specHeadsOk_any (n : Int) (A : Option Addr) (c : Nat) (l : List HeadD) (w : World) (hr : SlF AnyB HeadD.cells 5 w A l c) :
 Calls Tryz.prog 99 #[.int .i64 n, .slice A l.length c] w fun e w' => e = .returned (.bool (headsOk n l)) ∧ Ext w w' := by
 have HR := hU hr
 have hlm := hr.len
 unfold maxLen at hlm
 obtain ⟨fin, hfin⟩ : ∃ fin, fin = headsOk n l := ⟨_, rfl⟩
 rw [← hfin]
 cases b1 : inR n 1 32
 · have E := hU (show fin = false by rw [hfin, headsOk, b1]; rfl)
   clear hfin hr
   go_enter Tryz.func99, Tryz.ntmps99
   go_wp2_with fail
   refine (l02Width_any n _).mono ?_
   rintro e w1 ⟨rfl, rfl⟩
   go_wp2_with fail
   go_ret
   exact ⟨ret_bool E.out.symm, Below.refl w.heap.size w⟩
 by_cases h5 : l.length ≤ 400
 case neg =>
  have E := hU (show fin = false by rw [hfin, headsOk, decide_eq_false h5]; simp)
  have h6 : (400 : Int) < (l.length : Int) := by omega
  clear hfin hr
  go_enter Tryz.func99, Tryz.ntmps99
  go_wp2_with fail
  refine (l02Width_any n _).mono ?_
  rintro e w1 ⟨rfl, rfl⟩
  go_wp2_with fail
  go_ret
  exact ⟨ret_bool E.out.symm, Below.refl w.heap.size w⟩
 have F := hU (show fin = allTo (headAt n l) l.length by rw [hfin, headsOk, decide_eq_true h5, b1]; rfl)
 clear hfin hr
 go_enter Tryz.func99, Tryz.ntmps99
 go_wp2_with fail
 refine (l02Width_any n _).mono ?_
 rintro e w1 ⟨rfl, rfl⟩
 go_wp2_with fail
 go_loopw [5] (fun i wr => ∃ k : Nat, k ≤ l.length ∧ i = .int .i64 k ∧ allTo (headAt n l) k = true ∧ Ext w wr) (fun i _ => l.length - (intOf i).toNat)
 case atStart => exact ⟨0, Nat.zero_le _, rfl, rfl, Below.refl w.heap.size w⟩
 case round =>
  obtain ⟨k, hk, rfl, hi, he⟩ := hrel
  have Hi := hU hi
  clear hi b1
  by_cases hlt : k < l.length
  case neg =>
   have E := hU (show fin = true by rw [F.out, show l.length = k by omega]; exact Hi.out)
   go_wp2_with fail
   go_ret
   exact ⟨ret_bool E.out.symm, he⟩
  obtain ⟨b, off, rfl, hb, hc⟩ := Reads.at_ (HR.out.ext he).reads (k := k) hlt
  obtain ⟨d, hd⟩ : ∃ d, d = l[k] := ⟨_, rfl⟩
  have hdl : l[k]? = some d := by rw [hd]; exact List.getElem?_eq_getElem hlt
  have Hdl := hU hdl
  clear hc hd hdl
  go_upto_region 6 with fail
  refine wp_region_held_drew (S := fun w' => Ext w w') (by kernel_rfl) he.drew (fun hH => ?_)
  clear he
  refine takeH (i := 0) (oi := _) (v := .int .i64 n) (some 20) rfl rfl (by kernel_rfl) (by kernel_rfl) (by kernel_rfl) (fun _ a b _ e h => by cases a; cases b; cases e; exact h) (Or.inl ⟨by rfl, ?yz1⟩) hH ?rz1
  case yz1 => intro w' hS'; obtain ⟨c0, c1, c2, c3, c4⟩ := heads_cells (HR.out.ext hS') Hdl.out; go_simp; try with_reducible rfl
  (try simp only [fillA, Act.put, List.setIfInBounds_toArray, List.set_cons_zero, List.set_cons_succ])
  refine takeH (i := 1) (oi := _) (v := .slice (some ⟨b, off, none⟩) l.length c) (some 21) rfl rfl (by kernel_rfl) (by kernel_rfl) (by kernel_rfl) (fun _ a b _ e h => by cases a; cases b; cases e; exact h) (Or.inl ⟨by rfl, ?yz2⟩) hH ?rz2
  case yz2 => intro w' hS'; obtain ⟨c0, c1, c2, c3, c4⟩ := heads_cells (HR.out.ext hS') Hdl.out; go_simp; try with_reducible rfl
  (try simp only [fillA, Act.put, List.setIfInBounds_toArray, List.set_cons_zero, List.set_cons_succ])
  refine takeH (i := 2) (oi := _) (v := .int .i64 (k : Int)) (some 22) rfl rfl (by kernel_rfl) (by kernel_rfl) (by kernel_rfl) (fun _ a b _ e h => by cases a; cases b; cases e; exact h) (Or.inl ⟨by rfl, ?yz3⟩) hH ?rz3
  case yz3 => intro w' hS'; obtain ⟨c0, c1, c2, c3, c4⟩ := heads_cells (HR.out.ext hS') Hdl.out; go_simp; try with_reducible rfl
  (try simp only [fillA, Act.put, List.setIfInBounds_toArray, List.set_cons_zero, List.set_cons_succ])
  refine takeH (i := 3) (oi := _) (v := .pointer (some ⟨b, off + k * 5, none⟩)) (some 23) rfl rfl (by kernel_rfl) (by kernel_rfl) (by kernel_rfl) (fun _ a b _ e h => by cases a; cases b; cases e; exact h) (Or.inl ⟨by rfl, ?yz4⟩) hH ?rz4
  case yz4 => intro w' hS'; obtain ⟨c0, c1, c2, c3, c4⟩ := heads_cells (HR.out.ext hS') Hdl.out; go_simp; try with_reducible rfl
  (try simp only [fillA, Act.put, List.setIfInBounds_toArray, List.set_cons_zero, List.set_cons_succ])
  refine takeH (i := 4) (oi := _) (v := .agg #[.int .i64 d.number, .int .i64 d.size, .string d.root, .int .i64 d.taken, .string d.takenRoot]) (some 24) rfl rfl (by kernel_rfl) (by kernel_rfl) (by kernel_rfl) (fun _ a b _ e h => by cases a; cases b; cases e; exact h) (Or.inl ⟨by rfl, ?yz5⟩) hH ?rz5
  case yz5 => intro w' hS'; obtain ⟨c0, c1, c2, c3, c4⟩ := heads_cells (HR.out.ext hS') Hdl.out; go_simp; try with_reducible rfl
  (try simp only [fillA, Act.put, List.setIfInBounds_toArray, List.set_cons_zero, List.set_cons_succ])
  refine oneH 5 (oi := _) (some 25) (by kernel_rfl) rfl rfl rfl (fun K' hK => ?_)
  refine ⟨?_⟩
  rw [if_pos (by rfl)]
  go_simp
  refine (specHeadOk_any n d _).mono ?_
  rintro e w2 ⟨rfl, h1⟩
  refine hK.out _ _ ⟨_, rfl⟩ (hH.next h1) (fun hH2 => ?_)
  clear hK K' hH h1
  have hH := hH2
  clear hH2
  cases p1 : headOk n d
  · have E := hU (show fin = false by rw [F.out]; exact allTo_bad (k := k) (headAt_bad Hdl.out (by rw [p1]; rfl)) _ hlt)
    (try simp only [fillA, Act.put, List.setIfInBounds_toArray, List.set_cons_zero, List.set_cons_succ])
    refine takeH (i := 6) (oi := _) (v := .bool true) (some 26) rfl rfl (by kernel_rfl) (by kernel_rfl) (by kernel_rfl) (fun _ a b _ e h => by cases a; cases b; cases e; exact h) (Or.inl ⟨by rfl, ?yz6⟩) hH ?rz6
    case yz6 => intro w' hS'; obtain ⟨c0, c1, c2, c3, c4⟩ := heads_cells (HR.out.ext hS') Hdl.out; go_simp; try with_reducible rfl
    (try simp only [fillA, Act.put, List.setIfInBounds_toArray, List.set_cons_zero, List.set_cons_succ])
    refine takeH (i := 7) (oi := _) (v := .bool true) (some 27) rfl rfl (by kernel_rfl) (by kernel_rfl) (by kernel_rfl) (fun _ a b _ e h => by cases a; cases b; cases e; exact h) (Or.inl ⟨by rfl, ?yz7⟩) hH ?rz7
    case yz7 => intro w' hS'; obtain ⟨c0, c1, c2, c3, c4⟩ := heads_cells (HR.out.ext hS') Hdl.out; go_simp; try with_reducible rfl
    (try simp only [fillA, Act.put, List.setIfInBounds_toArray, List.set_cons_zero, List.set_cons_succ])
    refine takeH (i := 8) (oi := _) (v := undef) (some 28) rfl rfl (by kernel_rfl) (by kernel_rfl) (by kernel_rfl) (fun _ a b _ e h => by cases a; cases b; cases e; exact h) (Or.inr ⟨by go_simp; try (intro h; cases h), rfl⟩) hH ?rz8
    (try simp only [fillA, Act.put, List.setIfInBounds_toArray, List.set_cons_zero, List.set_cons_succ])
    refine takeH (i := 9) (oi := _) (v := undef) (some 29) rfl rfl (by kernel_rfl) (by kernel_rfl) (by kernel_rfl) (fun _ a b _ e h => by cases a; cases b; cases e; exact h) (Or.inr ⟨by go_simp; try (intro h; cases h), rfl⟩) hH ?rz9
    (try simp only [fillA, Act.put, List.setIfInBounds_toArray, List.set_cons_zero, List.set_cons_succ])
    refine takeH (i := 10) (oi := _) (v := undef) (some 30) rfl rfl (by kernel_rfl) (by kernel_rfl) (by kernel_rfl) (fun _ a b _ e h => by cases a; cases b; cases e; exact h) (Or.inr ⟨by go_simp; try (intro h; cases h), rfl⟩) hH ?rz10
    (try simp only [fillA, Act.put, List.setIfInBounds_toArray, List.set_cons_zero, List.set_cons_succ])
    refine takeH (i := 11) (oi := _) (v := undef) (some 31) rfl rfl (by kernel_rfl) (by kernel_rfl) (by kernel_rfl) (fun _ a b _ e h => by cases a; cases b; cases e; exact h) (Or.inr ⟨by go_simp; try (intro h; cases h), rfl⟩) hH ?rz11
    (try simp only [fillA, Act.put, List.setIfInBounds_toArray, List.set_cons_zero, List.set_cons_succ])
    refine takeH (i := 12) (oi := _) (v := undef) (some 32) rfl rfl (by kernel_rfl) (by kernel_rfl) (by kernel_rfl) (fun _ a b _ e h => by cases a; cases b; cases e; exact h) (Or.inr ⟨by go_simp; try (intro h; cases h), rfl⟩) hH ?rz12
    (try simp only [fillA, Act.put, List.setIfInBounds_toArray, List.set_cons_zero, List.set_cons_succ])
    refine takeH (i := 13) (oi := _) (v := undef) (some 33) rfl rfl (by kernel_rfl) (by kernel_rfl) (by kernel_rfl) (fun _ a b _ e h => by cases a; cases b; cases e; exact h) (Or.inr ⟨by go_simp; try (intro h; cases h), rfl⟩) hH ?rz13
    (try simp only [fillA, Act.put, List.setIfInBounds_toArray, List.set_cons_zero, List.set_cons_succ])
    refine takeH (i := 14) (oi := _) (v := undef) (some 34) rfl rfl (by kernel_rfl) (by kernel_rfl) (by kernel_rfl) (fun _ a b _ e h => by cases a; cases b; cases e; exact h) (Or.inr ⟨by go_simp; try (intro h; cases h), rfl⟩) hH ?rz14
    (try simp only [fillA, Act.put, List.setIfInBounds_toArray, List.set_cons_zero, List.set_cons_succ])
    refine takeH (i := 15) (oi := _) (v := .bool true) (some 35) rfl rfl (by kernel_rfl) (by kernel_rfl) (by kernel_rfl) (fun _ a b _ e h => by cases a; cases b; cases e; exact h) (Or.inl ⟨by rfl, ?yz15⟩) hH ?rz15
    case yz15 => intro w' hS'; obtain ⟨c0, c1, c2, c3, c4⟩ := heads_cells (HR.out.ext hS') Hdl.out; go_simp; try with_reducible rfl
    (try simp only [fillA, Act.put, List.setIfInBounds_toArray, List.set_cons_zero, List.set_cons_succ])
    refine takeH (i := 16) (oi := _) (v := .bool true) (some 36) rfl rfl (by kernel_rfl) (by kernel_rfl) (by kernel_rfl) (fun _ a b _ e h => by cases a; cases b; cases e; exact h) (Or.inl ⟨by rfl, ?yz16⟩) hH ?rz16
    case yz16 => intro w' hS'; obtain ⟨c0, c1, c2, c3, c4⟩ := heads_cells (HR.out.ext hS') Hdl.out; go_simp; try with_reducible rfl
    (try simp only [fillA, Act.put, List.setIfInBounds_toArray, List.set_cons_zero, List.set_cons_succ])
    refine takeH (i := 17) (oi := _) (v := undef) (some 37) rfl rfl (by kernel_rfl) (by kernel_rfl) (by kernel_rfl) (fun _ a b _ e h => by cases a; cases b; cases e; exact h) (Or.inr ⟨by go_simp; try (intro h; cases h), rfl⟩) hH ?rz17
    (try simp only [fillA, Act.put, List.setIfInBounds_toArray, List.set_cons_zero, List.set_cons_succ])
    refine takeH (i := 18) (oi := _) (v := undef) (some 38) rfl rfl (by kernel_rfl) (by kernel_rfl) (by kernel_rfl) (fun _ a b _ e h => by cases a; cases b; cases e; exact h) (Or.inr ⟨by go_simp; try (intro h; cases h), rfl⟩) hH ?rz18
    (try simp only [fillA, Act.put, List.setIfInBounds_toArray, List.set_cons_zero, List.set_cons_succ])
    refine takeH (i := 19) (oi := _) (v := undef) (some 39) rfl rfl (by kernel_rfl) (by kernel_rfl) (by kernel_rfl) (fun _ a b _ e h => by cases a; cases b; cases e; exact h) (Or.inr ⟨by go_simp; try (intro h; cases h), rfl⟩) hH ?rz19
    (try simp only [fillA, Act.put, List.setIfInBounds_toArray, List.set_cons_zero, List.set_cons_succ])
    refine takeH (i := 20) (oi := _) (v := undef) (some 40) rfl rfl (by kernel_rfl) (by kernel_rfl) (by kernel_rfl) (fun _ a b _ e h => by cases a; cases b; cases e; exact h) (Or.inr ⟨by go_simp; try (intro h; cases h), rfl⟩) hH ?rz20
    (try simp only [fillA, Act.put, List.setIfInBounds_toArray, List.set_cons_zero, List.set_cons_succ])
    refine takeH (i := 21) (oi := _) (v := undef) (some 41) rfl rfl (by kernel_rfl) (by kernel_rfl) (by kernel_rfl) (fun _ a b _ e h => by cases a; cases b; cases e; exact h) (Or.inr ⟨by go_simp; try (intro h; cases h), rfl⟩) hH ?rz21
    (try simp only [fillA, Act.put, List.setIfInBounds_toArray, List.set_cons_zero, List.set_cons_succ])
    refine takeH (i := 22) (oi := _) (v := undef) (some 42) rfl rfl (by kernel_rfl) (by kernel_rfl) (by kernel_rfl) (fun _ a b _ e h => by cases a; cases b; cases e; exact h) (Or.inr ⟨by go_simp; try (intro h; cases h), rfl⟩) hH ?rz22
    (try simp only [fillA, Act.put, List.setIfInBounds_toArray, List.set_cons_zero, List.set_cons_succ])
    refine takeH (i := 23) (oi := _) (v := undef) (some 43) rfl rfl (by kernel_rfl) (by kernel_rfl) (by kernel_rfl) (fun _ a b _ e h => by cases a; cases b; cases e; exact h) (Or.inr ⟨by go_simp; try (intro h; cases h), rfl⟩) hH ?rz23
    (try simp only [fillA, Act.put, List.setIfInBounds_toArray, List.set_cons_zero, List.set_cons_succ])
    refine takeH (i := 24) (oi := _) (v := undef) (some 44) rfl rfl (by kernel_rfl) (by kernel_rfl) (by kernel_rfl) (fun _ a b _ e h => by cases a; cases b; cases e; exact h) (Or.inr ⟨by go_simp; try (intro h; cases h), rfl⟩) hH ?rz24
    (try simp only [fillA, Act.put, List.setIfInBounds_toArray, List.set_cons_zero, List.set_cons_succ])
    refine takeH (i := 25) (oi := _) (v := undef) (some 45) rfl rfl (by kernel_rfl) (by kernel_rfl) (by kernel_rfl) (fun _ a b _ e h => by cases a; cases b; cases e; exact h) (Or.inr ⟨by go_simp; try (intro h; cases h), rfl⟩) hH ?rz25
    (try simp only [fillA, Act.put, List.setIfInBounds_toArray, List.set_cons_zero, List.set_cons_succ])
    refine takeH (i := 26) (oi := _) (v := undef) (some 46) rfl rfl (by kernel_rfl) (by kernel_rfl) (by kernel_rfl) (fun _ a b _ e h => by cases a; cases b; cases e; exact h) (Or.inr ⟨by go_simp; try (intro h; cases h), rfl⟩) hH ?rz26
    (try simp only [fillA, Act.put, List.setIfInBounds_toArray, List.set_cons_zero, List.set_cons_succ])
    refine takeH (i := 27) (oi := _) (v := undef) (some 47) rfl rfl (by kernel_rfl) (by kernel_rfl) (by kernel_rfl) (fun _ a b _ e h => by cases a; cases b; cases e; exact h) (Or.inr ⟨by go_simp; try (intro h; cases h), rfl⟩) hH ?rz27
    (try simp only [fillA, Act.put, List.setIfInBounds_toArray, List.set_cons_zero, List.set_cons_succ])
    refine takeH (i := 28) (oi := _) (v := undef) (some 48) rfl rfl (by kernel_rfl) (by kernel_rfl) (by kernel_rfl) (fun _ a b _ e h => by cases a; cases b; cases e; exact h) (Or.inr ⟨by go_simp; try (intro h; cases h), rfl⟩) hH ?rz28
    (try simp only [fillA, Act.put, List.setIfInBounds_toArray, List.set_cons_zero, List.set_cons_succ])
    refine takeH (i := 29) (oi := _) (v := undef) (some 49) rfl rfl (by kernel_rfl) (by kernel_rfl) (by kernel_rfl) (fun _ a b _ e h => by cases a; cases b; cases e; exact h) (Or.inr ⟨by go_simp; try (intro h; cases h), rfl⟩) hH ?rz29
    (try simp only [fillA, Act.put, List.setIfInBounds_toArray, List.set_cons_zero, List.set_cons_succ])
    refine takeH (i := 30) (oi := _) (v := undef) (some 50) rfl rfl (by kernel_rfl) (by kernel_rfl) (by kernel_rfl) (fun _ a b _ e h => by cases a; cases b; cases e; exact h) (Or.inr ⟨by go_simp; try (intro h; cases h), rfl⟩) hH ?rz30
    (try simp only [fillA, Act.put, List.setIfInBounds_toArray, List.set_cons_zero, List.set_cons_succ])
    refine takeH (i := 31) (oi := _) (v := undef) (some 51) rfl rfl (by kernel_rfl) (by kernel_rfl) (by kernel_rfl) (fun _ a b _ e h => by cases a; cases b; cases e; exact h) (Or.inr ⟨by go_simp; try (intro h; cases h), rfl⟩) hH ?rz31
    (try simp only [fillA, Act.put, List.setIfInBounds_toArray, List.set_cons_zero, List.set_cons_succ])
    refine takeH (i := 32) (oi := _) (v := undef) (some 52) rfl rfl (by kernel_rfl) (by kernel_rfl) (by kernel_rfl) (fun _ a b _ e h => by cases a; cases b; cases e; exact h) (Or.inr ⟨by go_simp; try (intro h; cases h), rfl⟩) hH ?rz32
    (try simp only [fillA, Act.put, List.setIfInBounds_toArray, List.set_cons_zero, List.set_cons_succ])
    refine takeH (i := 33) (oi := _) (v := .bool true) (some 53) rfl rfl (by kernel_rfl) (by kernel_rfl) (by kernel_rfl) (fun _ a b _ e h => by cases a; cases b; cases e; exact h) (Or.inl ⟨by rfl, ?yz33⟩) hH ?rz33
    case yz33 => intro w' hS'; obtain ⟨c0, c1, c2, c3, c4⟩ := heads_cells (HR.out.ext hS') Hdl.out; go_simp; try with_reducible rfl
    (try simp only [fillA, Act.put, List.setIfInBounds_toArray, List.set_cons_zero, List.set_cons_succ])
    have he2 := hH
    clear hH
    refine wpAnyH_done (by kernel_rfl) ?_ _
    go_wp2_with fail
    go_ret
    exact ⟨ret_bool E.out.symm, he2⟩
  · cases p2 : (d.number == (k : Int))
    · have E := hU (show fin = false by rw [F.out]; exact allTo_bad (k := k) (headAt_bad Hdl.out (by rw [p1, p2]; rfl)) _ hlt)
      have n2 : (d.number != (k : Int)) = true := by rw [bne, p2]; rfl
      (try simp only [fillA, Act.put, List.setIfInBounds_toArray, List.set_cons_zero, List.set_cons_succ])
      refine takeH (i := 6) (oi := _) (v := .bool false) (some 26) rfl rfl (by kernel_rfl) (by kernel_rfl) (by kernel_rfl) (fun _ a b _ e h => by cases a; cases b; cases e; exact h) (Or.inl ⟨by rfl, ?yz34⟩) hH ?rz34
      case yz34 => intro w' hS'; obtain ⟨c0, c1, c2, c3, c4⟩ := heads_cells (HR.out.ext hS') Hdl.out; go_simp; try with_reducible rfl
      (try simp only [fillA, Act.put, List.setIfInBounds_toArray, List.set_cons_zero, List.set_cons_succ])
      refine takeH (i := 7) (oi := _) (v := .bool false) (some 27) rfl rfl (by kernel_rfl) (by kernel_rfl) (by kernel_rfl) (fun _ a b _ e h => by cases a; cases b; cases e; exact h) (Or.inl ⟨by rfl, ?yz35⟩) hH ?rz35
      case yz35 => intro w' hS'; obtain ⟨c0, c1, c2, c3, c4⟩ := heads_cells (HR.out.ext hS') Hdl.out; go_simp; try with_reducible rfl
      (try simp only [fillA, Act.put, List.setIfInBounds_toArray, List.set_cons_zero, List.set_cons_succ])
      refine takeH (i := 8) (oi := _) (v := .slice (some ⟨b, off, none⟩) l.length c) (some 28) rfl rfl (by kernel_rfl) (by kernel_rfl) (by kernel_rfl) (fun _ a b _ e h => by cases a; cases b; cases e; exact h) (Or.inl ⟨by rfl, ?yz36⟩) hH ?rz36
      case yz36 => intro w' hS'; obtain ⟨c0, c1, c2, c3, c4⟩ := heads_cells (HR.out.ext hS') Hdl.out; go_simp; try with_reducible rfl
      (try simp only [fillA, Act.put, List.setIfInBounds_toArray, List.set_cons_zero, List.set_cons_succ])
      refine takeH (i := 9) (oi := _) (v := .int .i64 (k : Int)) (some 29) rfl rfl (by kernel_rfl) (by kernel_rfl) (by kernel_rfl) (fun _ a b _ e h => by cases a; cases b; cases e; exact h) (Or.inl ⟨by rfl, ?yz37⟩) hH ?rz37
      case yz37 => intro w' hS'; obtain ⟨c0, c1, c2, c3, c4⟩ := heads_cells (HR.out.ext hS') Hdl.out; go_simp; try with_reducible rfl
      (try simp only [fillA, Act.put, List.setIfInBounds_toArray, List.set_cons_zero, List.set_cons_succ])
      refine takeH (i := 10) (oi := _) (v := .pointer (some ⟨b, off + k * 5, none⟩)) (some 30) rfl rfl (by kernel_rfl) (by kernel_rfl) (by kernel_rfl) (fun _ a b _ e h => by cases a; cases b; cases e; exact h) (Or.inl ⟨by rfl, ?yz38⟩) hH ?rz38
      case yz38 => intro w' hS'; obtain ⟨c0, c1, c2, c3, c4⟩ := heads_cells (HR.out.ext hS') Hdl.out; go_simp; try with_reducible rfl
      (try simp only [fillA, Act.put, List.setIfInBounds_toArray, List.set_cons_zero, List.set_cons_succ])
      refine takeH (i := 11) (oi := _) (v := .pointer (some ⟨b, off + k * 5, none⟩)) (some 31) rfl rfl (by kernel_rfl) (by kernel_rfl) (by kernel_rfl) (fun _ a b _ e h => by cases a; cases b; cases e; exact h) (Or.inl ⟨by rfl, ?yz39⟩) hH ?rz39
      case yz39 => intro w' hS'; obtain ⟨c0, c1, c2, c3, c4⟩ := heads_cells (HR.out.ext hS') Hdl.out; go_simp; try with_reducible rfl
      (try simp only [fillA, Act.put, List.setIfInBounds_toArray, List.set_cons_zero, List.set_cons_succ])
      refine takeH (i := 12) (oi := _) (v := .int .i64 d.number) (some 32) rfl rfl (by kernel_rfl) (by kernel_rfl) (by kernel_rfl) (fun _ a b _ e h => by cases a; cases b; cases e; exact h) (Or.inl ⟨by rfl, ?yz40⟩) hH ?rz40
      case yz40 => intro w' hS'; obtain ⟨c0, c1, c2, c3, c4⟩ := heads_cells (HR.out.ext hS') Hdl.out; go_simp; try with_reducible rfl
      (try simp only [fillA, Act.put, List.setIfInBounds_toArray, List.set_cons_zero, List.set_cons_succ])
      refine takeH (i := 13) (oi := _) (v := .int .i64 (k : Int)) (some 33) rfl rfl (by kernel_rfl) (by kernel_rfl) (by kernel_rfl) (fun _ a b _ e h => by cases a; cases b; cases e; exact h) (Or.inl ⟨by rfl, ?yz41⟩) hH ?rz41
      case yz41 => intro w' hS'; obtain ⟨c0, c1, c2, c3, c4⟩ := heads_cells (HR.out.ext hS') Hdl.out; go_simp; try with_reducible rfl
      (try simp only [fillA, Act.put, List.setIfInBounds_toArray, List.set_cons_zero, List.set_cons_succ])
      refine takeH (i := 14) (oi := _) (v := .bool true) (some 34) rfl rfl (by kernel_rfl) (by kernel_rfl) (by kernel_rfl) (fun _ a b _ e h => by cases a; cases b; cases e; exact h) (Or.inl ⟨by rfl, ?yz42⟩) hH ?rz42
      case yz42 => intro w' hS'; obtain ⟨c0, c1, c2, c3, c4⟩ := heads_cells (HR.out.ext hS') Hdl.out; go_simp; try with_reducible rfl
      (try simp only [fillA, Act.put, List.setIfInBounds_toArray, List.set_cons_zero, List.set_cons_succ])
      refine takeH (i := 15) (oi := _) (v := .bool true) (some 35) rfl rfl (by kernel_rfl) (by kernel_rfl) (by kernel_rfl) (fun _ a b _ e h => by cases a; cases b; cases e; exact h) (Or.inl ⟨by rfl, ?yz43⟩) hH ?rz43
      case yz43 => intro w' hS'; obtain ⟨c0, c1, c2, c3, c4⟩ := heads_cells (HR.out.ext hS') Hdl.out; go_simp; try with_reducible rfl
      (try simp only [fillA, Act.put, List.setIfInBounds_toArray, List.set_cons_zero, List.set_cons_succ])
      refine takeH (i := 16) (oi := _) (v := .bool true) (some 36) rfl rfl (by kernel_rfl) (by kernel_rfl) (by kernel_rfl) (fun _ a b _ e h => by cases a; cases b; cases e; exact h) (Or.inl ⟨by rfl, ?yz44⟩) hH ?rz44
      case yz44 => intro w' hS'; obtain ⟨c0, c1, c2, c3, c4⟩ := heads_cells (HR.out.ext hS') Hdl.out; go_simp; try with_reducible rfl
      (try simp only [fillA, Act.put, List.setIfInBounds_toArray, List.set_cons_zero, List.set_cons_succ])
      refine takeH (i := 17) (oi := _) (v := undef) (some 37) rfl rfl (by kernel_rfl) (by kernel_rfl) (by kernel_rfl) (fun _ a b _ e h => by cases a; cases b; cases e; exact h) (Or.inr ⟨by go_simp; try (intro h; cases h), rfl⟩) hH ?rz45
      (try simp only [fillA, Act.put, List.setIfInBounds_toArray, List.set_cons_zero, List.set_cons_succ])
      refine takeH (i := 18) (oi := _) (v := undef) (some 38) rfl rfl (by kernel_rfl) (by kernel_rfl) (by kernel_rfl) (fun _ a b _ e h => by cases a; cases b; cases e; exact h) (Or.inr ⟨by go_simp; try (intro h; cases h), rfl⟩) hH ?rz46
      (try simp only [fillA, Act.put, List.setIfInBounds_toArray, List.set_cons_zero, List.set_cons_succ])
      refine takeH (i := 19) (oi := _) (v := undef) (some 39) rfl rfl (by kernel_rfl) (by kernel_rfl) (by kernel_rfl) (fun _ a b _ e h => by cases a; cases b; cases e; exact h) (Or.inr ⟨by go_simp; try (intro h; cases h), rfl⟩) hH ?rz47
      (try simp only [fillA, Act.put, List.setIfInBounds_toArray, List.set_cons_zero, List.set_cons_succ])
      refine takeH (i := 20) (oi := _) (v := undef) (some 40) rfl rfl (by kernel_rfl) (by kernel_rfl) (by kernel_rfl) (fun _ a b _ e h => by cases a; cases b; cases e; exact h) (Or.inr ⟨by go_simp; try (intro h; cases h), rfl⟩) hH ?rz48
      (try simp only [fillA, Act.put, List.setIfInBounds_toArray, List.set_cons_zero, List.set_cons_succ])
      refine takeH (i := 21) (oi := _) (v := undef) (some 41) rfl rfl (by kernel_rfl) (by kernel_rfl) (by kernel_rfl) (fun _ a b _ e h => by cases a; cases b; cases e; exact h) (Or.inr ⟨by go_simp; try (intro h; cases h), rfl⟩) hH ?rz49
      (try simp only [fillA, Act.put, List.setIfInBounds_toArray, List.set_cons_zero, List.set_cons_succ])
      refine takeH (i := 22) (oi := _) (v := undef) (some 42) rfl rfl (by kernel_rfl) (by kernel_rfl) (by kernel_rfl) (fun _ a b _ e h => by cases a; cases b; cases e; exact h) (Or.inr ⟨by go_simp; try (intro h; cases h), rfl⟩) hH ?rz50
      (try simp only [fillA, Act.put, List.setIfInBounds_toArray, List.set_cons_zero, List.set_cons_succ])
      refine takeH (i := 23) (oi := _) (v := undef) (some 43) rfl rfl (by kernel_rfl) (by kernel_rfl) (by kernel_rfl) (fun _ a b _ e h => by cases a; cases b; cases e; exact h) (Or.inr ⟨by go_simp; try (intro h; cases h), rfl⟩) hH ?rz51
      (try simp only [fillA, Act.put, List.setIfInBounds_toArray, List.set_cons_zero, List.set_cons_succ])
      refine takeH (i := 24) (oi := _) (v := undef) (some 44) rfl rfl (by kernel_rfl) (by kernel_rfl) (by kernel_rfl) (fun _ a b _ e h => by cases a; cases b; cases e; exact h) (Or.inr ⟨by go_simp; try (intro h; cases h), rfl⟩) hH ?rz52
      (try simp only [fillA, Act.put, List.setIfInBounds_toArray, List.set_cons_zero, List.set_cons_succ])
      refine takeH (i := 25) (oi := _) (v := undef) (some 45) rfl rfl (by kernel_rfl) (by kernel_rfl) (by kernel_rfl) (fun _ a b _ e h => by cases a; cases b; cases e; exact h) (Or.inr ⟨by go_simp; try (intro h; cases h), rfl⟩) hH ?rz53
      (try simp only [fillA, Act.put, List.setIfInBounds_toArray, List.set_cons_zero, List.set_cons_succ])
      refine takeH (i := 26) (oi := _) (v := undef) (some 46) rfl rfl (by kernel_rfl) (by kernel_rfl) (by kernel_rfl) (fun _ a b _ e h => by cases a; cases b; cases e; exact h) (Or.inr ⟨by go_simp; try (intro h; cases h), rfl⟩) hH ?rz54
      (try simp only [fillA, Act.put, List.setIfInBounds_toArray, List.set_cons_zero, List.set_cons_succ])
      refine takeH (i := 27) (oi := _) (v := undef) (some 47) rfl rfl (by kernel_rfl) (by kernel_rfl) (by kernel_rfl) (fun _ a b _ e h => by cases a; cases b; cases e; exact h) (Or.inr ⟨by go_simp; try (intro h; cases h), rfl⟩) hH ?rz55
      (try simp only [fillA, Act.put, List.setIfInBounds_toArray, List.set_cons_zero, List.set_cons_succ])
      refine takeH (i := 28) (oi := _) (v := undef) (some 48) rfl rfl (by kernel_rfl) (by kernel_rfl) (by kernel_rfl) (fun _ a b _ e h => by cases a; cases b; cases e; exact h) (Or.inr ⟨by go_simp; try (intro h; cases h), rfl⟩) hH ?rz56
      (try simp only [fillA, Act.put, List.setIfInBounds_toArray, List.set_cons_zero, List.set_cons_succ])
      refine takeH (i := 29) (oi := _) (v := undef) (some 49) rfl rfl (by kernel_rfl) (by kernel_rfl) (by kernel_rfl) (fun _ a b _ e h => by cases a; cases b; cases e; exact h) (Or.inr ⟨by go_simp; try (intro h; cases h), rfl⟩) hH ?rz57
      (try simp only [fillA, Act.put, List.setIfInBounds_toArray, List.set_cons_zero, List.set_cons_succ])
      refine takeH (i := 30) (oi := _) (v := undef) (some 50) rfl rfl (by kernel_rfl) (by kernel_rfl) (by kernel_rfl) (fun _ a b _ e h => by cases a; cases b; cases e; exact h) (Or.inr ⟨by go_simp; try (intro h; cases h), rfl⟩) hH ?rz58
      (try simp only [fillA, Act.put, List.setIfInBounds_toArray, List.set_cons_zero, List.set_cons_succ])
      refine takeH (i := 31) (oi := _) (v := undef) (some 51) rfl rfl (by kernel_rfl) (by kernel_rfl) (by kernel_rfl) (fun _ a b _ e h => by cases a; cases b; cases e; exact h) (Or.inr ⟨by go_simp; try (intro h; cases h), rfl⟩) hH ?rz59
      (try simp only [fillA, Act.put, List.setIfInBounds_toArray, List.set_cons_zero, List.set_cons_succ])
      refine takeH (i := 32) (oi := _) (v := undef) (some 52) rfl rfl (by kernel_rfl) (by kernel_rfl) (by kernel_rfl) (fun _ a b _ e h => by cases a; cases b; cases e; exact h) (Or.inr ⟨by go_simp; try (intro h; cases h), rfl⟩) hH ?rz60
      (try simp only [fillA, Act.put, List.setIfInBounds_toArray, List.set_cons_zero, List.set_cons_succ])
      refine takeH (i := 33) (oi := _) (v := .bool true) (some 53) rfl rfl (by kernel_rfl) (by kernel_rfl) (by kernel_rfl) (fun _ a b _ e h => by cases a; cases b; cases e; exact h) (Or.inl ⟨by rfl, ?yz61⟩) hH ?rz61
      case yz61 => intro w' hS'; obtain ⟨c0, c1, c2, c3, c4⟩ := heads_cells (HR.out.ext hS') Hdl.out; go_simp; try with_reducible rfl
      (try simp only [fillA, Act.put, List.setIfInBounds_toArray, List.set_cons_zero, List.set_cons_succ])
      have he2 := hH
      clear hH
      refine wpAnyH_done (by kernel_rfl) ?_ _
      go_wp2_with fail
      go_ret
      exact ⟨ret_bool E.out.symm, he2⟩
    · have n2 : (d.number != (k : Int)) = false := by rw [bne, p2]; rfl
      (try simp only [fillA, Act.put, List.setIfInBounds_toArray, List.set_cons_zero, List.set_cons_succ])
      refine takeH (i := 6) (oi := _) (v := .bool false) (some 26) rfl rfl (by kernel_rfl) (by kernel_rfl) (by kernel_rfl) (fun _ a b _ e h => by cases a; cases b; cases e; exact h) (Or.inl ⟨by rfl, ?yz62⟩) hH ?rz62
      case yz62 => intro w' hS'; obtain ⟨c0, c1, c2, c3, c4⟩ := heads_cells (HR.out.ext hS') Hdl.out; go_simp; try with_reducible rfl
      (try simp only [fillA, Act.put, List.setIfInBounds_toArray, List.set_cons_zero, List.set_cons_succ])
      refine takeH (i := 7) (oi := _) (v := .bool false) (some 27) rfl rfl (by kernel_rfl) (by kernel_rfl) (by kernel_rfl) (fun _ a b _ e h => by cases a; cases b; cases e; exact h) (Or.inl ⟨by rfl, ?yz63⟩) hH ?rz63
      case yz63 => intro w' hS'; obtain ⟨c0, c1, c2, c3, c4⟩ := heads_cells (HR.out.ext hS') Hdl.out; go_simp; try with_reducible rfl
      (try simp only [fillA, Act.put, List.setIfInBounds_toArray, List.set_cons_zero, List.set_cons_succ])
      refine takeH (i := 8) (oi := _) (v := .slice (some ⟨b, off, none⟩) l.length c) (some 28) rfl rfl (by kernel_rfl) (by kernel_rfl) (by kernel_rfl) (fun _ a b _ e h => by cases a; cases b; cases e; exact h) (Or.inl ⟨by rfl, ?yz64⟩) hH ?rz64
      case yz64 => intro w' hS'; obtain ⟨c0, c1, c2, c3, c4⟩ := heads_cells (HR.out.ext hS') Hdl.out; go_simp; try with_reducible rfl
      (try simp only [fillA, Act.put, List.setIfInBounds_toArray, List.set_cons_zero, List.set_cons_succ])
      refine takeH (i := 9) (oi := _) (v := .int .i64 (k : Int)) (some 29) rfl rfl (by kernel_rfl) (by kernel_rfl) (by kernel_rfl) (fun _ a b _ e h => by cases a; cases b; cases e; exact h) (Or.inl ⟨by rfl, ?yz65⟩) hH ?rz65
      case yz65 => intro w' hS'; obtain ⟨c0, c1, c2, c3, c4⟩ := heads_cells (HR.out.ext hS') Hdl.out; go_simp; try with_reducible rfl
      (try simp only [fillA, Act.put, List.setIfInBounds_toArray, List.set_cons_zero, List.set_cons_succ])
      refine takeH (i := 10) (oi := _) (v := .pointer (some ⟨b, off + k * 5, none⟩)) (some 30) rfl rfl (by kernel_rfl) (by kernel_rfl) (by kernel_rfl) (fun _ a b _ e h => by cases a; cases b; cases e; exact h) (Or.inl ⟨by rfl, ?yz66⟩) hH ?rz66
      case yz66 => intro w' hS'; obtain ⟨c0, c1, c2, c3, c4⟩ := heads_cells (HR.out.ext hS') Hdl.out; go_simp; try with_reducible rfl
      (try simp only [fillA, Act.put, List.setIfInBounds_toArray, List.set_cons_zero, List.set_cons_succ])
      refine takeH (i := 11) (oi := _) (v := .pointer (some ⟨b, off + k * 5, none⟩)) (some 31) rfl rfl (by kernel_rfl) (by kernel_rfl) (by kernel_rfl) (fun _ a b _ e h => by cases a; cases b; cases e; exact h) (Or.inl ⟨by rfl, ?yz67⟩) hH ?rz67
      case yz67 => intro w' hS'; obtain ⟨c0, c1, c2, c3, c4⟩ := heads_cells (HR.out.ext hS') Hdl.out; go_simp; try with_reducible rfl
      (try simp only [fillA, Act.put, List.setIfInBounds_toArray, List.set_cons_zero, List.set_cons_succ])
      refine takeH (i := 12) (oi := _) (v := .int .i64 d.number) (some 32) rfl rfl (by kernel_rfl) (by kernel_rfl) (by kernel_rfl) (fun _ a b _ e h => by cases a; cases b; cases e; exact h) (Or.inl ⟨by rfl, ?yz68⟩) hH ?rz68
      case yz68 => intro w' hS'; obtain ⟨c0, c1, c2, c3, c4⟩ := heads_cells (HR.out.ext hS') Hdl.out; go_simp; try with_reducible rfl
      (try simp only [fillA, Act.put, List.setIfInBounds_toArray, List.set_cons_zero, List.set_cons_succ])
      refine takeH (i := 13) (oi := _) (v := .int .i64 (k : Int)) (some 33) rfl rfl (by kernel_rfl) (by kernel_rfl) (by kernel_rfl) (fun _ a b _ e h => by cases a; cases b; cases e; exact h) (Or.inl ⟨by rfl, ?yz69⟩) hH ?rz69
      case yz69 => intro w' hS'; obtain ⟨c0, c1, c2, c3, c4⟩ := heads_cells (HR.out.ext hS') Hdl.out; go_simp; try with_reducible rfl
      (try simp only [fillA, Act.put, List.setIfInBounds_toArray, List.set_cons_zero, List.set_cons_succ])
      refine takeH (i := 14) (oi := _) (v := .bool false) (some 34) rfl rfl (by kernel_rfl) (by kernel_rfl) (by kernel_rfl) (fun _ a b _ e h => by cases a; cases b; cases e; exact h) (Or.inl ⟨by rfl, ?yz70⟩) hH ?rz70
      case yz70 => intro w' hS'; obtain ⟨c0, c1, c2, c3, c4⟩ := heads_cells (HR.out.ext hS') Hdl.out; go_simp; try with_reducible rfl
      (try simp only [fillA, Act.put, List.setIfInBounds_toArray, List.set_cons_zero, List.set_cons_succ])
      refine takeH (i := 15) (oi := _) (v := .bool false) (some 35) rfl rfl (by kernel_rfl) (by kernel_rfl) (by kernel_rfl) (fun _ a b _ e h => by cases a; cases b; cases e; exact h) (Or.inl ⟨by rfl, ?yz71⟩) hH ?rz71
      case yz71 => intro w' hS'; obtain ⟨c0, c1, c2, c3, c4⟩ := heads_cells (HR.out.ext hS') Hdl.out; go_simp; try with_reducible rfl
      (try simp only [fillA, Act.put, List.setIfInBounds_toArray, List.set_cons_zero, List.set_cons_succ])
      refine takeH (i := 16) (oi := _) (v := .bool false) (some 36) rfl rfl (by kernel_rfl) (by kernel_rfl) (by kernel_rfl) (fun _ a b _ e h => by cases a; cases b; cases e; exact h) (Or.inl ⟨by rfl, ?yz72⟩) hH ?rz72
      case yz72 => intro w' hS'; obtain ⟨c0, c1, c2, c3, c4⟩ := heads_cells (HR.out.ext hS') Hdl.out; go_simp; try with_reducible rfl
      (try simp only [fillA, Act.put, List.setIfInBounds_toArray, List.set_cons_zero, List.set_cons_succ])
      refine takeH (i := 17) (oi := _) (v := .int .i64 (k : Int)) (some 37) rfl rfl (by kernel_rfl) (by kernel_rfl) (by kernel_rfl) (fun _ a b _ e h => by cases a; cases b; cases e; exact h) (Or.inl ⟨by rfl, ?yz73⟩) hH ?rz73
      case yz73 => intro w' hS'; obtain ⟨c0, c1, c2, c3, c4⟩ := heads_cells (HR.out.ext hS') Hdl.out; go_simp; try with_reducible rfl
      (try simp only [fillA, Act.put, List.setIfInBounds_toArray, List.set_cons_zero, List.set_cons_succ])
      by_cases k0 : k = 0
      · have E := hU (show allTo (headAt n l) (k + 1) = true from allTo_good Hi.out (by rw [headAt_zero Hdl.out k0, p1, p2]; rfl))
        have g0 : decide ((0 : Int) < (k : Int)) = false := decide_eq_false (by omega)
        refine takeH (i := 18) (oi := _) (v := .bool false) (some 38) rfl rfl (by kernel_rfl) (by kernel_rfl) (by kernel_rfl) (fun _ a b _ e h => by cases a; cases b; cases e; exact h) (Or.inl ⟨by rfl, ?yz74⟩) hH ?rz74
        case yz74 => intro w' hS'; obtain ⟨c0, c1, c2, c3, c4⟩ := heads_cells (HR.out.ext hS') Hdl.out; go_simp; try with_reducible rfl
        (try simp only [fillA, Act.put, List.setIfInBounds_toArray, List.set_cons_zero, List.set_cons_succ])
        refine takeH (i := 19) (oi := _) (v := .bool false) (some 39) rfl rfl (by kernel_rfl) (by kernel_rfl) (by kernel_rfl) (fun _ a b _ e h => by cases a; cases b; cases e; exact h) (Or.inl ⟨by rfl, ?yz75⟩) hH ?rz75
        case yz75 => intro w' hS'; obtain ⟨c0, c1, c2, c3, c4⟩ := heads_cells (HR.out.ext hS') Hdl.out; go_simp; try with_reducible rfl
        (try simp only [fillA, Act.put, List.setIfInBounds_toArray, List.set_cons_zero, List.set_cons_succ])
        refine takeH (i := 20) (oi := _) (v := undef) (some 40) rfl rfl (by kernel_rfl) (by kernel_rfl) (by kernel_rfl) (fun _ a b _ e h => by cases a; cases b; cases e; exact h) (Or.inr ⟨by go_simp; try (intro h; cases h), rfl⟩) hH ?rz76
        (try simp only [fillA, Act.put, List.setIfInBounds_toArray, List.set_cons_zero, List.set_cons_succ])
        refine takeH (i := 21) (oi := _) (v := undef) (some 41) rfl rfl (by kernel_rfl) (by kernel_rfl) (by kernel_rfl) (fun _ a b _ e h => by cases a; cases b; cases e; exact h) (Or.inr ⟨by go_simp; try (intro h; cases h), rfl⟩) hH ?rz77
        (try simp only [fillA, Act.put, List.setIfInBounds_toArray, List.set_cons_zero, List.set_cons_succ])
        refine takeH (i := 22) (oi := _) (v := undef) (some 42) rfl rfl (by kernel_rfl) (by kernel_rfl) (by kernel_rfl) (fun _ a b _ e h => by cases a; cases b; cases e; exact h) (Or.inr ⟨by go_simp; try (intro h; cases h), rfl⟩) hH ?rz78
        (try simp only [fillA, Act.put, List.setIfInBounds_toArray, List.set_cons_zero, List.set_cons_succ])
        refine takeH (i := 23) (oi := _) (v := undef) (some 43) rfl rfl (by kernel_rfl) (by kernel_rfl) (by kernel_rfl) (fun _ a b _ e h => by cases a; cases b; cases e; exact h) (Or.inr ⟨by go_simp; try (intro h; cases h), rfl⟩) hH ?rz79
        (try simp only [fillA, Act.put, List.setIfInBounds_toArray, List.set_cons_zero, List.set_cons_succ])
        refine takeH (i := 24) (oi := _) (v := undef) (some 44) rfl rfl (by kernel_rfl) (by kernel_rfl) (by kernel_rfl) (fun _ a b _ e h => by cases a; cases b; cases e; exact h) (Or.inr ⟨by go_simp; try (intro h; cases h), rfl⟩) hH ?rz80
        (try simp only [fillA, Act.put, List.setIfInBounds_toArray, List.set_cons_zero, List.set_cons_succ])
        refine takeH (i := 25) (oi := _) (v := undef) (some 45) rfl rfl (by kernel_rfl) (by kernel_rfl) (by kernel_rfl) (fun _ a b _ e h => by cases a; cases b; cases e; exact h) (Or.inr ⟨by go_simp; try (intro h; cases h), rfl⟩) hH ?rz81
        (try simp only [fillA, Act.put, List.setIfInBounds_toArray, List.set_cons_zero, List.set_cons_succ])
        refine takeH (i := 26) (oi := _) (v := undef) (some 46) rfl rfl (by kernel_rfl) (by kernel_rfl) (by kernel_rfl) (fun _ a b _ e h => by cases a; cases b; cases e; exact h) (Or.inr ⟨by go_simp; try (intro h; cases h), rfl⟩) hH ?rz82
        (try simp only [fillA, Act.put, List.setIfInBounds_toArray, List.set_cons_zero, List.set_cons_succ])
        refine takeH (i := 27) (oi := _) (v := undef) (some 47) rfl rfl (by kernel_rfl) (by kernel_rfl) (by kernel_rfl) (fun _ a b _ e h => by cases a; cases b; cases e; exact h) (Or.inr ⟨by go_simp; try (intro h; cases h), rfl⟩) hH ?rz83
        (try simp only [fillA, Act.put, List.setIfInBounds_toArray, List.set_cons_zero, List.set_cons_succ])
        refine takeH (i := 28) (oi := _) (v := undef) (some 48) rfl rfl (by kernel_rfl) (by kernel_rfl) (by kernel_rfl) (fun _ a b _ e h => by cases a; cases b; cases e; exact h) (Or.inr ⟨by go_simp; try (intro h; cases h), rfl⟩) hH ?rz84
        (try simp only [fillA, Act.put, List.setIfInBounds_toArray, List.set_cons_zero, List.set_cons_succ])
        refine takeH (i := 29) (oi := _) (v := undef) (some 49) rfl rfl (by kernel_rfl) (by kernel_rfl) (by kernel_rfl) (fun _ a b _ e h => by cases a; cases b; cases e; exact h) (Or.inr ⟨by go_simp; try (intro h; cases h), rfl⟩) hH ?rz85
        (try simp only [fillA, Act.put, List.setIfInBounds_toArray, List.set_cons_zero, List.set_cons_succ])
        refine takeH (i := 30) (oi := _) (v := undef) (some 50) rfl rfl (by kernel_rfl) (by kernel_rfl) (by kernel_rfl) (fun _ a b _ e h => by cases a; cases b; cases e; exact h) (Or.inr ⟨by go_simp; try (intro h; cases h), rfl⟩) hH ?rz86
        (try simp only [fillA, Act.put, List.setIfInBounds_toArray, List.set_cons_zero, List.set_cons_succ])
        refine takeH (i := 31) (oi := _) (v := undef) (some 51) rfl rfl (by kernel_rfl) (by kernel_rfl) (by kernel_rfl) (fun _ a b _ e h => by cases a; cases b; cases e; exact h) (Or.inr ⟨by go_simp; try (intro h; cases h), rfl⟩) hH ?rz87
        (try simp only [fillA, Act.put, List.setIfInBounds_toArray, List.set_cons_zero, List.set_cons_succ])
        refine takeH (i := 32) (oi := _) (v := .bool false) (some 52) rfl rfl (by kernel_rfl) (by kernel_rfl) (by kernel_rfl) (fun _ a b _ e h => by cases a; cases b; cases e; exact h) (Or.inl ⟨by rfl, ?yz88⟩) hH ?rz88
        case yz88 => intro w' hS'; obtain ⟨c0, c1, c2, c3, c4⟩ := heads_cells (HR.out.ext hS') Hdl.out; go_simp; try with_reducible rfl
        (try simp only [fillA, Act.put, List.setIfInBounds_toArray, List.set_cons_zero, List.set_cons_succ])
        refine takeH (i := 33) (oi := _) (v := .bool false) (some 53) rfl rfl (by kernel_rfl) (by kernel_rfl) (by kernel_rfl) (fun _ a b _ e h => by cases a; cases b; cases e; exact h) (Or.inl ⟨by rfl, ?yz89⟩) hH ?rz89
        case yz89 => intro w' hS'; obtain ⟨c0, c1, c2, c3, c4⟩ := heads_cells (HR.out.ext hS') Hdl.out; go_simp; try with_reducible rfl
        (try simp only [fillA, Act.put, List.setIfInBounds_toArray, List.set_cons_zero, List.set_cons_succ])
        have he2 := hH
        clear hH
        refine wpAnyH_done (by kernel_rfl) ?_ _
        go_wp2_with fail
        go_roundw
        case rel => exact ⟨k + 1, by omega, by go_num, E.out, he2⟩
        case measure => simp [intOf]; omega
      · obtain ⟨j, hj⟩ : ∃ j, k = j + 1 := ⟨k - 1, by omega⟩
        obtain ⟨e, hel⟩ : ∃ e, l[j]? = some e := ⟨l[j]'(by omega), List.getElem?_eq_getElem (by omega)⟩
        have hjl : j < l.length := by omega
        have g0 : decide ((0 : Int) < (k : Int)) = true := decide_eq_true (by omega)
        have hkp : 0 < k := by omega
        have hkj : (k : Int) - 1 = (j : Int) := by omega
        have hjw : IntKind.i64.wrap (j : Int) = (j : Int) := IntWalk.i64_in _ (by omega)
        have HA := hU (headAt_next (n := n) Hdl.out hj hel)
        have Hel := hU hel
        have Hj := hU hj
        clear hel hj
        refine takeH (i := 18) (oi := _) (v := .bool true) (some 38) rfl rfl (by kernel_rfl) (by kernel_rfl) (by kernel_rfl) (fun _ a b _ e h => by cases a; cases b; cases e; exact h) (Or.inl ⟨by rfl, ?yz90⟩) hH ?rz90
        case yz90 => intro w' hS'; obtain ⟨c0, c1, c2, c3, c4⟩ := heads_cells (HR.out.ext hS') Hdl.out; obtain ⟨d0, d1, d2, d3, d4⟩ := heads_cells (HR.out.ext hS') Hel.out; go_simp; try with_reducible rfl
        (try simp only [fillA, Act.put, List.setIfInBounds_toArray, List.set_cons_zero, List.set_cons_succ])
        refine takeH (i := 19) (oi := _) (v := .bool true) (some 39) rfl rfl (by kernel_rfl) (by kernel_rfl) (by kernel_rfl) (fun _ a b _ e h => by cases a; cases b; cases e; exact h) (Or.inl ⟨by rfl, ?yz91⟩) hH ?rz91
        case yz91 => intro w' hS'; obtain ⟨c0, c1, c2, c3, c4⟩ := heads_cells (HR.out.ext hS') Hdl.out; obtain ⟨d0, d1, d2, d3, d4⟩ := heads_cells (HR.out.ext hS') Hel.out; go_simp; try with_reducible rfl
        (try simp only [fillA, Act.put, List.setIfInBounds_toArray, List.set_cons_zero, List.set_cons_succ])
        refine takeH (i := 20) (oi := _) (v := .int .i64 n) (some 40) rfl rfl (by kernel_rfl) (by kernel_rfl) (by kernel_rfl) (fun _ a b _ e h => by cases a; cases b; cases e; exact h) (Or.inl ⟨by rfl, ?yz92⟩) hH ?rz92
        case yz92 => intro w' hS'; obtain ⟨c0, c1, c2, c3, c4⟩ := heads_cells (HR.out.ext hS') Hdl.out; obtain ⟨d0, d1, d2, d3, d4⟩ := heads_cells (HR.out.ext hS') Hel.out; go_simp; try with_reducible rfl
        (try simp only [fillA, Act.put, List.setIfInBounds_toArray, List.set_cons_zero, List.set_cons_succ])
        refine takeH (i := 21) (oi := _) (v := .slice (some ⟨b, off, none⟩) l.length c) (some 41) rfl rfl (by kernel_rfl) (by kernel_rfl) (by kernel_rfl) (fun _ a b _ e h => by cases a; cases b; cases e; exact h) (Or.inl ⟨by rfl, ?yz93⟩) hH ?rz93
        case yz93 => intro w' hS'; obtain ⟨c0, c1, c2, c3, c4⟩ := heads_cells (HR.out.ext hS') Hdl.out; obtain ⟨d0, d1, d2, d3, d4⟩ := heads_cells (HR.out.ext hS') Hel.out; go_simp; try with_reducible rfl
        (try simp only [fillA, Act.put, List.setIfInBounds_toArray, List.set_cons_zero, List.set_cons_succ])
        refine takeH (i := 22) (oi := _) (v := .int .i64 (k : Int)) (some 42) rfl rfl (by kernel_rfl) (by kernel_rfl) (by kernel_rfl) (fun _ a b _ e h => by cases a; cases b; cases e; exact h) (Or.inl ⟨by rfl, ?yz94⟩) hH ?rz94
        case yz94 => intro w' hS'; obtain ⟨c0, c1, c2, c3, c4⟩ := heads_cells (HR.out.ext hS') Hdl.out; obtain ⟨d0, d1, d2, d3, d4⟩ := heads_cells (HR.out.ext hS') Hel.out; go_simp; try with_reducible rfl
        (try simp only [fillA, Act.put, List.setIfInBounds_toArray, List.set_cons_zero, List.set_cons_succ])
        refine takeH (i := 23) (oi := _) (v := .int .i64 (j : Int)) (some 43) rfl rfl (by kernel_rfl) (by kernel_rfl) (by kernel_rfl) (fun _ a b _ e h => by cases a; cases b; cases e; exact h) (Or.inl ⟨by rfl, ?yz95⟩) hH ?rz95
        case yz95 => intro w' hS'; obtain ⟨c0, c1, c2, c3, c4⟩ := heads_cells (HR.out.ext hS') Hdl.out; obtain ⟨d0, d1, d2, d3, d4⟩ := heads_cells (HR.out.ext hS') Hel.out; go_simp; try with_reducible rfl
        (try simp only [fillA, Act.put, List.setIfInBounds_toArray, List.set_cons_zero, List.set_cons_succ])
        refine takeH (i := 24) (oi := _) (v := .pointer (some ⟨b, off + j * 5, none⟩)) (some 44) rfl rfl (by kernel_rfl) (by kernel_rfl) (by kernel_rfl) (fun _ a b _ e h => by cases a; cases b; cases e; exact h) (Or.inl ⟨by rfl, ?yz96⟩) hH ?rz96
        case yz96 => intro w' hS'; obtain ⟨c0, c1, c2, c3, c4⟩ := heads_cells (HR.out.ext hS') Hdl.out; obtain ⟨d0, d1, d2, d3, d4⟩ := heads_cells (HR.out.ext hS') Hel.out; go_simp; try with_reducible rfl
        (try simp only [fillA, Act.put, List.setIfInBounds_toArray, List.set_cons_zero, List.set_cons_succ])
        refine takeH (i := 25) (oi := _) (v := .agg #[.int .i64 e.number, .int .i64 e.size, .string e.root, .int .i64 e.taken, .string e.takenRoot]) (some 45) rfl rfl (by kernel_rfl) (by kernel_rfl) (by kernel_rfl) (fun _ a b _ e h => by cases a; cases b; cases e; exact h) (Or.inl ⟨by rfl, ?yz97⟩) hH ?rz97
        case yz97 => intro w' hS'; obtain ⟨c0, c1, c2, c3, c4⟩ := heads_cells (HR.out.ext hS') Hdl.out; obtain ⟨d0, d1, d2, d3, d4⟩ := heads_cells (HR.out.ext hS') Hel.out; go_simp; try with_reducible rfl
        (try simp only [fillA, Act.put, List.setIfInBounds_toArray, List.set_cons_zero, List.set_cons_succ])
        refine takeH (i := 26) (oi := _) (v := .slice (some ⟨b, off, none⟩) l.length c) (some 46) rfl rfl (by kernel_rfl) (by kernel_rfl) (by kernel_rfl) (fun _ a b _ e h => by cases a; cases b; cases e; exact h) (Or.inl ⟨by rfl, ?yz98⟩) hH ?rz98
        case yz98 => intro w' hS'; obtain ⟨c0, c1, c2, c3, c4⟩ := heads_cells (HR.out.ext hS') Hdl.out; obtain ⟨d0, d1, d2, d3, d4⟩ := heads_cells (HR.out.ext hS') Hel.out; go_simp; try with_reducible rfl
        (try simp only [fillA, Act.put, List.setIfInBounds_toArray, List.set_cons_zero, List.set_cons_succ])
        refine takeH (i := 27) (oi := _) (v := .int .i64 (k : Int)) (some 47) rfl rfl (by kernel_rfl) (by kernel_rfl) (by kernel_rfl) (fun _ a b _ e h => by cases a; cases b; cases e; exact h) (Or.inl ⟨by rfl, ?yz99⟩) hH ?rz99
        case yz99 => intro w' hS'; obtain ⟨c0, c1, c2, c3, c4⟩ := heads_cells (HR.out.ext hS') Hdl.out; obtain ⟨d0, d1, d2, d3, d4⟩ := heads_cells (HR.out.ext hS') Hel.out; go_simp; try with_reducible rfl
        (try simp only [fillA, Act.put, List.setIfInBounds_toArray, List.set_cons_zero, List.set_cons_succ])
        refine takeH (i := 28) (oi := _) (v := .pointer (some ⟨b, off + k * 5, none⟩)) (some 48) rfl rfl (by kernel_rfl) (by kernel_rfl) (by kernel_rfl) (fun _ a b _ e h => by cases a; cases b; cases e; exact h) (Or.inl ⟨by rfl, ?yz100⟩) hH ?rz100
        case yz100 => intro w' hS'; obtain ⟨c0, c1, c2, c3, c4⟩ := heads_cells (HR.out.ext hS') Hdl.out; obtain ⟨d0, d1, d2, d3, d4⟩ := heads_cells (HR.out.ext hS') Hel.out; go_simp; try with_reducible rfl
        (try simp only [fillA, Act.put, List.setIfInBounds_toArray, List.set_cons_zero, List.set_cons_succ])
        refine takeH (i := 29) (oi := _) (v := .agg #[.int .i64 d.number, .int .i64 d.size, .string d.root, .int .i64 d.taken, .string d.takenRoot]) (some 49) rfl rfl (by kernel_rfl) (by kernel_rfl) (by kernel_rfl) (fun _ a b _ e h => by cases a; cases b; cases e; exact h) (Or.inl ⟨by rfl, ?yz101⟩) hH ?rz101
        case yz101 => intro w' hS'; obtain ⟨c0, c1, c2, c3, c4⟩ := heads_cells (HR.out.ext hS') Hdl.out; obtain ⟨d0, d1, d2, d3, d4⟩ := heads_cells (HR.out.ext hS') Hel.out; go_simp; try with_reducible rfl
        (try simp only [fillA, Act.put, List.setIfInBounds_toArray, List.set_cons_zero, List.set_cons_succ])
        refine oneHw 30 (oi := _) (some 50) (by kernel_rfl) rfl (by rfl) rfl (fun K' hK => ?_)
        refine ⟨?_⟩
        rw [if_pos (by rfl)]
        go_simp
        refine (specFollows_any n e d _).mono ?_
        rintro e w2 ⟨rfl, h1⟩
        refine hK.out _ _ ⟨_, rfl⟩ (hH.next h1) (fun hH2 => ?_)
        clear hK K' hH h1
        have hH := hH2
        clear hH2
        cases p3 : followsB n e d
        · have E := hU (show fin = false by rw [F.out]; exact allTo_bad (k := k) (by rw [HA.out, p3, Bool.and_false]) _ hlt)
          (try simp only [fillA, Act.put, List.setIfInBounds_toArray, List.set_cons_zero, List.set_cons_succ])
          refine takeH (i := 31) (oi := _) (v := .bool true) (some 51) rfl rfl (by kernel_rfl) (by kernel_rfl) (by kernel_rfl) (fun _ a b _ e h => by cases a; cases b; cases e; exact h) (Or.inl ⟨by rfl, ?yz102⟩) hH ?rz102
          case yz102 => intro w' hS'; obtain ⟨c0, c1, c2, c3, c4⟩ := heads_cells (HR.out.ext hS') Hdl.out; obtain ⟨d0, d1, d2, d3, d4⟩ := heads_cells (HR.out.ext hS') Hel.out; go_simp; try with_reducible rfl
          (try simp only [fillA, Act.put, List.setIfInBounds_toArray, List.set_cons_zero, List.set_cons_succ])
          refine takeH (i := 32) (oi := _) (v := .bool true) (some 52) rfl rfl (by kernel_rfl) (by kernel_rfl) (by kernel_rfl) (fun _ a b _ e h => by cases a; cases b; cases e; exact h) (Or.inl ⟨by rfl, ?yz103⟩) hH ?rz103
          case yz103 => intro w' hS'; obtain ⟨c0, c1, c2, c3, c4⟩ := heads_cells (HR.out.ext hS') Hdl.out; obtain ⟨d0, d1, d2, d3, d4⟩ := heads_cells (HR.out.ext hS') Hel.out; go_simp; try with_reducible rfl
          (try simp only [fillA, Act.put, List.setIfInBounds_toArray, List.set_cons_zero, List.set_cons_succ])
          refine takeH (i := 33) (oi := _) (v := .bool true) (some 53) rfl rfl (by kernel_rfl) (by kernel_rfl) (by kernel_rfl) (fun _ a b _ e h => by cases a; cases b; cases e; exact h) (Or.inl ⟨by rfl, ?yz104⟩) hH ?rz104
          case yz104 => intro w' hS'; obtain ⟨c0, c1, c2, c3, c4⟩ := heads_cells (HR.out.ext hS') Hdl.out; obtain ⟨d0, d1, d2, d3, d4⟩ := heads_cells (HR.out.ext hS') Hel.out; go_simp; try with_reducible rfl
          (try simp only [fillA, Act.put, List.setIfInBounds_toArray, List.set_cons_zero, List.set_cons_succ])
          have he2 := hH
          clear hH
          refine wpAnyH_done (by kernel_rfl) ?_ _
          go_wp2_with fail
          go_ret
          exact ⟨ret_bool E.out.symm, he2⟩
        · have E := hU (show allTo (headAt n l) (k + 1) = true from allTo_good Hi.out (by rw [HA.out, p1, p2, p3]; rfl))
          (try simp only [fillA, Act.put, List.setIfInBounds_toArray, List.set_cons_zero, List.set_cons_succ])
          refine takeH (i := 31) (oi := _) (v := .bool false) (some 51) rfl rfl (by kernel_rfl) (by kernel_rfl) (by kernel_rfl) (fun _ a b _ e h => by cases a; cases b; cases e; exact h) (Or.inl ⟨by rfl, ?yz105⟩) hH ?rz105
          case yz105 => intro w' hS'; obtain ⟨c0, c1, c2, c3, c4⟩ := heads_cells (HR.out.ext hS') Hdl.out; obtain ⟨d0, d1, d2, d3, d4⟩ := heads_cells (HR.out.ext hS') Hel.out; go_simp; try with_reducible rfl
          (try simp only [fillA, Act.put, List.setIfInBounds_toArray, List.set_cons_zero, List.set_cons_succ])
          refine takeH (i := 32) (oi := _) (v := .bool false) (some 52) rfl rfl (by kernel_rfl) (by kernel_rfl) (by kernel_rfl) (fun _ a b _ e h => by cases a; cases b; cases e; exact h) (Or.inl ⟨by rfl, ?yz106⟩) hH ?rz106
          case yz106 => intro w' hS'; obtain ⟨c0, c1, c2, c3, c4⟩ := heads_cells (HR.out.ext hS') Hdl.out; obtain ⟨d0, d1, d2, d3, d4⟩ := heads_cells (HR.out.ext hS') Hel.out; go_simp; try with_reducible rfl
          (try simp only [fillA, Act.put, List.setIfInBounds_toArray, List.set_cons_zero, List.set_cons_succ])
          refine takeH (i := 33) (oi := _) (v := .bool false) (some 53) rfl rfl (by kernel_rfl) (by kernel_rfl) (by kernel_rfl) (fun _ a b _ e h => by cases a; cases b; cases e; exact h) (Or.inl ⟨by rfl, ?yz107⟩) hH ?rz107
          case yz107 => intro w' hS'; obtain ⟨c0, c1, c2, c3, c4⟩ := heads_cells (HR.out.ext hS') Hdl.out; obtain ⟨d0, d1, d2, d3, d4⟩ := heads_cells (HR.out.ext hS') Hel.out; go_simp; try with_reducible rfl
          (try simp only [fillA, Act.put, List.setIfInBounds_toArray, List.set_cons_zero, List.set_cons_succ])
          have he2 := hH
          clear hH
          refine wpAnyH_done (by kernel_rfl) ?_ _
          go_wp2_with fail
          go_roundw
          case rel => exact ⟨k + 1, by omega, by go_num, E.out, he2⟩
          case measure => simp [intOf]; omega
end Go.Proofs.YtlgdghpnfclgpaaGreat

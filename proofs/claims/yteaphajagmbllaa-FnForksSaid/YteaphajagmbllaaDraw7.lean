/-
  The reference's drawing: two heads of a width. No condition.
-/
import Derived.Test.YteaphajagmbllaaDraw6
namespace Go.Proofs.Yteaphajagmbllaa
open Go.RowKit
set_option linter.unusedVariables false
set_option linter.unusedSimpArgs false

/-- Two drawn heads in blocks v and q; the results' cells in blocks r and r + 1; the cursor in block g. -/
def LL (W : World) (B g r v q : Nat) (A : Option Addr) (c : Nat) (l : List Int) (a b : HeadD) (wx : World) : Prop :=
  CurAt wx B g A c l ∧ Blk wx v 42 #[.int .i64 a.number, .int .i64 a.size, .string a.root, .int .i64 a.taken, .string a.takenRoot] ∧ Blk wx q 42 #[.int .i64 b.number, .int .i64 b.size, .string b.root, .int .i64 b.taken, .string b.takenRoot] ∧ (∃ z : Array Value, z.size = 5 ∧ Blk wx r 42 z) ∧ (∃ z : Array Value, z.size = 5 ∧ Blk wx (r + 1) 42 z) ∧ Ext W wx
section
variable {W w1 w2 : World} {B g r v q : Nat} {A : Option Addr} {c : Nat} {l : List Int} {a b : HeadD}
theorem LL.call (k0 : LL W B g r v q A c l a b w1) (hW : W.heap.size ≤ g) (hr : r ≠ g) (hr1 : r + 1 ≠ g) (hv : v ≠ g) (hq : q ≠ g) (C : CurAt w2 B g A c l) (k : ExtBut g w1 w2) : LL W B g r v q A c l a b w2 := by
  obtain ⟨_, h2, h3, ⟨z, hz, h4⟩, ⟨y, hy, h5⟩, h6⟩ := k0
  exact ⟨C, h2.extBut k hv, h3.extBut k hq, ⟨z, hz, h4.extBut k hr⟩, ⟨y, hy, h5.extBut k hr1⟩, h6.nextBut hW k⟩
theorem LL.ext (k0 : LL W B g r v q A c l a b w1) (k : Ext w1 w2) : LL W B g r v q A c l a b w2 := by
  obtain ⟨h1, h2, h3, ⟨z, hz, h4⟩, ⟨y, hy, h5⟩, h6⟩ := k0
  exact ⟨h1.ext k, h2.ext k, h3.ext k, ⟨z, hz, h4.ext k⟩, ⟨y, hy, h5.ext k⟩, h6.next k⟩
/-- A store into the second head. -/
theorem LL.put (k0 : LL W B g r v q A c l a b w1) (hB : B ≤ q) (hW : W.heap.size ≤ q) (hg : g ≠ q) (hv : v ≠ q) (hr : r ≠ q) (hr1 : r + 1 ≠ q) (vs : List Value) (o : Nat) (b' : HeadD) (ho : o + vs.length ≤ 5) (e : (#[.int .i64 b'.number, .int .i64 b'.size, .string b'.root, .int .i64 b'.taken, .string b'.takenRoot] : Array Value) = ((#[.int .i64 b.number, .int .i64 b.size, .string b.root, .int .i64 b.taken, .string b.takenRoot] : Array Value).toList.take o ++ vs ++ (#[.int .i64 b.number, .int .i64 b.size, .string b.root, .int .i64 b.taken, .string b.takenRoot] : Array Value).toList.drop (o + vs.length)).toArray) : LL W B g r v q A c l a b' (w1.setCells q o vs) := by
  obtain ⟨h1, h2, h3, ⟨z, hz, h4⟩, ⟨y, hy, h5⟩, h6⟩ := k0
  exact ⟨h1.far hB hg vs o, h2.farCells hv vs o w1, h3.put o vs _ (by simpa using ho) e, ⟨z, hz, h4.farCells hr vs o w1⟩, ⟨y, hy, h5.farCells hr1 vs o w1⟩, ext_setCells hW vs o w1 h6⟩
/-- The stores of the results. -/
theorem LL.out1 (k0 : LL W B g r v q A c l a b w1) (hB : B ≤ r) (hW : W.heap.size ≤ r) (hg : g ≠ r) (hv : v ≠ r) (hq : q ≠ r) (vs : List Value) (hn : vs.length = 5) : LL W B g r v q A c l a b (w1.setCells r 0 vs) ∧ Blk (w1.setCells r 0 vs) r 42 vs.toArray := by
  obtain ⟨h1, h2, h3, ⟨z, hz, h4⟩, ⟨y, hy, h5⟩, h6⟩ := k0
  have k := h4.put 0 vs vs.toArray (by omega) (by rw [hn, List.take_zero, List.nil_append, List.drop_eq_nil_of_le (by rw [Array.length_toList]; omega), List.append_nil])
  exact ⟨⟨h1.far hB hg vs 0, h2.farCells hv vs 0 w1, h3.farCells hq vs 0 w1, ⟨_, by simp [hn], k⟩, ⟨y, hy, h5.farCells (by omega) vs 0 w1⟩, ext_setCells hW vs 0 w1 h6⟩, k⟩
theorem LL.out2 (k0 : LL W B g r v q A c l a b w1) (hB : B ≤ r) (hW : W.heap.size ≤ r) (hg : g ≠ r + 1) (hv : v ≠ r + 1) (hq : q ≠ r + 1) (vs : List Value) (hn : vs.length = 5) : LL W B g r v q A c l a b (w1.setCells (r + 1) 0 vs) ∧ Blk (w1.setCells (r + 1) 0 vs) (r + 1) 42 vs.toArray := by
  obtain ⟨h1, h2, h3, ⟨z, hz, h4⟩, ⟨y, hy, h5⟩, h6⟩ := k0
  have k := h5.put 0 vs vs.toArray (by omega) (by rw [hn, List.take_zero, List.nil_append, List.drop_eq_nil_of_le (by rw [Array.length_toList]; omega), List.append_nil])
  exact ⟨⟨h1.far (by omega) hg vs 0, h2.farCells hv vs 0 w1, h3.farCells hq vs 0 w1, ⟨z, hz, h4.farCells (by omega) vs 0 w1⟩, ⟨_, by simp [hn], k⟩, ext_setCells (by omega) vs 0 w1 h6⟩, k⟩
end
theorem ret_heads {P : Program} {fn : Func} {R : Ending → World → Prop} {a : Act} {w : World} {s p q : Tmp} {ty g g' t t' : Nat} {cs cs' : Array Value} {d : TypeDesc} (h : fn.results = #[.tmp s, .cell p ty, .cell q ty])
    (hp : a.tmps.getD p undef = .pointer (some ⟨g, 0, none⟩)) (hq : a.tmps.getD q undef = .pointer (some ⟨g', 0, none⟩)) (hB : Blk w g t cs) (hB' : Blk w g' t' cs') (hu : P.underlying ty = some d) (hd : (match d with | .struct _ | .array _ _ => true | _ => false) = true) (hi : (P.info? ty).map (·.size) = some cs.size) (hi' : (P.info? ty).map (·.size) = some cs'.size)
    (hdef : a.defers = []) (hR : R (.returned (.tuple #[a.tmps.getD s undef, .agg cs, .agg cs'])) w) : bodyPost P fn R .ret a w := by
  refine bodyPost_ret (v := .tuple #[a.tmps.getD s undef, .agg cs, .agg cs']) ?_ hdef hR
  have h1 := run_loadVar_row w g t ty cs (0, 0) d hB hu hd hi
  have h2 := run_loadVar_row w g' t' ty cs' (0, 0) d hB' hu hd hi'
  simp only [results, h]
  rw [show (#[ResultVar.tmp s, ResultVar.cell p ty, ResultVar.cell q ty] : Array ResultVar) = #[.tmp s, .cell p ty, .cell q ty] from rfl]
  simp [Sem.run_bind, Result.andThen]
  have hp' : a.tmps[p]?.getD undef = .pointer (some ⟨g, 0, none⟩) := by rw [← hp]; simp
  have hq' : a.tmps[q]?.getD undef = .pointer (some ⟨g', 0, none⟩) := by rw [← hq]; simp
  rw [hp', hq']
  simp [asAddr, Sem.run_pure, Result.andThen, h1, h2]
set_option maxHeartbeats 4000000 in
set_option maxRecDepth 100000 in
theorem DrawHeads_any (A : Option Addr) (c : Nat) (l : List Int) (w : World) (hlen : l.length ≤ maxLen) (hin : ∀ x ∈ l, ByteIn x) (hr : ReadsL w w.heap.size byteC 1 A l) :
    Calls Try.prog 15 #[.slice A l.length c] w fun e w' => Ext w w' ∧ ∃ (n : Int) (a b : HeadD), 1 ≤ n ∧ n ≤ 32 ∧ a.Ok ∧ b.Ok ∧ e = .returned (.tuple #[.int .i64 n, .agg #[.int .i64 a.number, .int .i64 a.size, .string a.root, .int .i64 a.taken, .string a.takenRoot], .agg #[.int .i64 b.number, .int .i64 b.size, .string b.root, .int .i64 b.taken, .string b.takenRoot]]) := by
  obtain ⟨B0, B1, he⟩ := two_blks w #[.int .i64 0, .int .i64 0, .string ⟨#[]⟩, .int .i64 0, .string ⟨#[]⟩] #[.int .i64 0, .int .i64 0, .string ⟨#[]⟩, .int .i64 0, .string ⟨#[]⟩] 42 42
  have hs0 : w.heap.size + 2 ≤ ((w.alloc (.cells #[.int .i64 0, .int .i64 0, .string ⟨#[]⟩, .int .i64 0, .string ⟨#[]⟩] 42)).alloc (.cells #[.int .i64 0, .int .i64 0, .string ⟨#[]⟩, .int .i64 0, .string ⟨#[]⟩] 42)).heap.size := by simp
  go_enter Try.func15, Try.ntmps15
  go_wp2_with fail
  have hr0 := hr.below he
  obtain ⟨r, hrr⟩ : ∃ r, r = w.heap.size := ⟨_, rfl⟩
  rw [← hrr] at B0 B1 hs0 hr0
  rw [← hrr]
  have hwr : w.heap.size ≤ r := by omega
  have hrw : r ≤ w.heap.size := by omega
  clear hrr hr
  generalize (w.alloc (.cells #[.int .i64 0, .int .i64 0, .string ⟨#[]⟩, .int .i64 0, .string ⟨#[]⟩] 42)).alloc (.cells #[.int .i64 0, .int .i64 0, .string ⟨#[]⟩, .int .i64 0, .string ⟨#[]⟩] 42) = w0 at *
  refine (l01New_any r A c l w0 (by omega) hlen hin hr0).mono ?_
  rintro e w1 ⟨g, hg, rfl, C, e1⟩
  replace B0 := B0.ext e1; replace B1 := B1.ext e1; replace he := he.next e1
  have hwg : w.heap.size ≤ g := by omega
  have hrg : r ≠ g := by omega
  have hrg1 : r + 1 ≠ g := by omega
  clear e1 hr0
  go_wp2_with fail
  refine (l01Below_any r g A c l 32 _ (by decide) (by decide) C).mono ?_
  rintro e w2 ⟨x, ⟨hx0, hx1⟩, rfl, C2, k⟩
  replace B0 := B0.extBut k hrg; replace B1 := B1.extBut k hrg1; replace he := he.nextBut hwg k
  clear C k
  obtain ⟨n, hn⟩ : ∃ n : Nat, 1 + x = (n : Int) := ⟨(1 + x).toNat, by omega⟩
  have hn1 : 1 ≤ n := by omega
  have hn2 : n ≤ 32 := by omega
  go_wp2_with fail
  refine (l10Head_any r g A c l n _ hn1 hn2 C2).mono ?_
  rintro e w3 ⟨a, ha, rfl, C3, k⟩
  have hs3 := B1.lt
  replace B0 := B0.extBut k hrg; replace B1 := B1.extBut k hrg1; replace he := he.nextBut hwg k
  replace hs3 := Nat.lt_of_lt_of_le hs3 k.size
  clear C2 k
  have Ha := Lib.hid ha; clear ha
  have hgl := C3.lt
  go_upto_region 4 with fail
  have V0 := Blk.new w3 42 #[.int .i64 a.number, .int .i64 a.size, .string a.root, .int .i64 a.taken, .string a.takenRoot]
  replace B0 := B0.alloc (.cells #[.int .i64 a.number, .int .i64 a.size, .string a.root, .int .i64 a.taken, .string a.takenRoot] 42); replace B1 := B1.alloc (.cells #[.int .i64 a.number, .int .i64 a.size, .string a.root, .int .i64 a.taken, .string a.takenRoot] 42); replace C3 := C3.alloc (.cells #[.int .i64 a.number, .int .i64 a.size, .string a.root, .int .i64 a.taken, .string a.takenRoot] 42); replace he := he.new (.cells #[.int .i64 a.number, .int .i64 a.size, .string a.root, .int .i64 a.taken, .string a.takenRoot] 42)
  have hrl : r + 1 < w3.heap.size := by have := hs3; omega
  obtain ⟨v, hv⟩ : ∃ v, v = w3.heap.size := ⟨_, rfl⟩
  have hv4 : v < (w3.alloc (.cells #[.int .i64 a.number, .int .i64 a.size, .string a.root, .int .i64 a.taken, .string a.takenRoot] 42)).heap.size := by rw [hv]; exact V0.lt
  rw [← hv] at V0 hgl hrl
  rw [← hv]
  clear hv
  generalize w3.alloc (.cells #[.int .i64 a.number, .int .i64 a.size, .string a.root, .int .i64 a.taken, .string a.takenRoot] 42) = w4 at *
  obtain ⟨hc, hf⟩ := V0.rules
  go_upto_region 5 with fail
  clear hc hf
  have L : LL w r g r v w4.heap.size A c l a a (w4.alloc (.cells #[.int .i64 a.number, .int .i64 a.size, .string a.root, .int .i64 a.taken, .string a.takenRoot] 42)) := ⟨C3.alloc _, V0.alloc _, Blk.new w4 42 _, ⟨_, rfl, B0.alloc _⟩, ⟨_, rfl, B1.alloc _⟩, he.new _⟩
  obtain ⟨q, hq⟩ : ∃ q, q = w4.heap.size := ⟨_, rfl⟩
  rw [← hq] at L hv4
  rw [← hq]
  clear hq V0 B0 B1 C3 he
  generalize w4.alloc (.cells #[.int .i64 a.number, .int .i64 a.size, .string a.root, .int .i64 a.taken, .string a.takenRoot] 42) = w5 at *
  have hvg : v ≠ g := by omega
  have hqg : q ≠ g := by omega
  have hgq : g ≠ q := by omega
  have hvq : v ≠ q := by omega
  have hrq : r ≠ q := by omega
  have hrq1 : r + 1 ≠ q := by omega
  have hgr : g ≠ r := by omega
  have hvr : v ≠ r := by omega
  have hqr : q ≠ r := by omega
  have hgr1 : g ≠ r + 1 := by omega
  have hvr1 : v ≠ r + 1 := by omega
  have hqr1 : q ≠ r + 1 := by omega
  have hrq0 : r ≤ q := by omega
  have hwq : w.heap.size ≤ q := by omega
  go_wp2_with fail
  refine (l01Below_any r g A c l 4 _ (by decide) (by decide) L.1).mono ?_
  rintro e w6 ⟨x, ⟨hx2, hx3⟩, rfl, C6, k⟩
  replace L := L.call hwg hrg hrg1 hvg hqg C6 k
  clear C6 k
  by_cases x0 : x = 0
  · have f0 : (x == 0) = true := by simpa using x0
    clear x0
    go_wp2_with fail
    refine (l10Head_any r g A c l n _ hn1 hn2 L.1).mono ?_
    rintro e w7 ⟨b, hb, rfl, C7, k⟩
    replace L := L.call hwg hrg hrg1 hvg hqg C7 k; clear C7 k
    obtain ⟨hc, hf⟩ := L.2.2.1.rules
    go_upto_region 12 with fail
    clear hc hf
    replace L := LL.put L hrq0 hwq hgq hvq hrq hrq1 [.int .i64 b.number, .int .i64 b.size, .string b.root, .int .i64 b.taken, .string b.takenRoot] 0 b (by simp) (by simp)
    change Code.wp _ _ _ _ (w7.setCells q 0 [.int .i64 b.number, .int .i64 b.size, .string b.root, .int .i64 b.taken, .string b.takenRoot])
    generalize w7.setCells q 0 [.int .i64 b.number, .int .i64 b.size, .string b.root, .int .i64 b.taken, .string b.takenRoot] = w8 at *
    have Hb := Lib.hid (hb)
    refine wp_region_held_drew (S := LL w r g r v q A c l a b) (by kernel_rfl) (L.ext ⟨rfl, rfl, rfl, Nat.le_refl _, fun _ _ => rfl⟩) (fun hHeld => ?_)
    clear L
    refine wpAnyH_take (i := 0) (oi := _) (v := ?w0) rfl (by kernel_rfl) (by kernel_rfl) (by kernel_rfl) (fun _ _ _ h => h) (Or.inl ⟨by first | (go_simp; done) | rfl, ?z0⟩) hHeld ?rest0
    case z0 => (intro w9 h9; go_simp; (try with_reducible rfl))
    case rest0 =>
    (try simp only [Act.put, List.getElem_toArray, List.getElem_cons_zero, List.getElem_cons_succ, List.setIfInBounds_toArray, List.set_cons_zero, List.set_cons_succ])
    refine wpAnyH_take (i := 1) (oi := _) (v := _) rfl (by kernel_rfl) (by kernel_rfl) (by kernel_rfl) (fun _ _ _ h => h) (yieldsIf_load_mid (by rfl) 42 _ rfl v 0 rfl [.int .i64 a.number, .int .i64 a.size, .string a.root, .int .i64 a.taken, .string a.takenRoot] _ (fun w' h => Blk.range h.2.1) Try.underlying42 rfl (by kernel_rfl)) hHeld ?_
    (try simp only [Act.put, List.getElem_toArray, List.getElem_cons_zero, List.getElem_cons_succ, List.setIfInBounds_toArray, List.set_cons_zero, List.set_cons_succ])
    refine wpAnyH_take (i := 2) (oi := _) (v := _) rfl (by kernel_rfl) (by kernel_rfl) (by kernel_rfl) (fun _ _ _ h => h) (yieldsIf_load_mid (by rfl) 42 _ rfl q 0 rfl [.int .i64 b.number, .int .i64 b.size, .string b.root, .int .i64 b.taken, .string b.takenRoot] _ (fun w' h => Blk.range h.2.2.1) Try.underlying42 rfl (by kernel_rfl)) hHeld ?_
    (try simp only [Act.put, List.getElem_toArray, List.getElem_cons_zero, List.getElem_cons_succ, List.setIfInBounds_toArray, List.set_cons_zero, List.set_cons_succ])
    refine wpAnyH_take (i := 3) (oi := _) (v := ?w3) rfl (by kernel_rfl) (by kernel_rfl) (by kernel_rfl) (fun _ _ _ h => h) (Or.inl ⟨by first | (go_simp; done) | rfl, ?z3⟩) hHeld ?rest3
    case z3 => (intro w9 h9; go_simp; (try with_reducible rfl))
    case rest3 =>
    (try simp only [Act.put, List.getElem_toArray, List.getElem_cons_zero, List.getElem_cons_succ, List.setIfInBounds_toArray, List.set_cons_zero, List.set_cons_succ])
    refine wpAnyH_ready (rs := [4]) (by decide +kernel) (by simp) ?_
    refine AllReadyH.cons (o := _) rfl (fun K hK => ?_) AllReadyH.nil
    obtain ⟨z4, hz4, Bz⟩ := hHeld.2.2.2.1
    refine wp_store_here 42 _ _ rfl rfl r 0 [.int .i64 a.number, .int .i64 a.size, .string a.root, .int .i64 a.taken, .string a.takenRoot] rfl rfl (Bz.there 0 5 (by omega)) (by kernel_rfl) (by simp [Value.oneCell']) ?_
    obtain ⟨D1, D2⟩ := LL.out1 hHeld (Nat.le_refl _) hwr hgr hvr hqr [.int .i64 a.number, .int .i64 a.size, .string a.root, .int .i64 a.taken, .string a.takenRoot] rfl
    refine hK.out _ _ D1 (fun _ => ?_)
    clear hK K Bz hz4 z4
    (try simp only [Act.put, List.getElem_toArray, List.getElem_cons_zero, List.getElem_cons_succ, List.setIfInBounds_toArray, List.set_cons_zero, List.set_cons_succ])
    generalize w8.drew.setCells r 0 [.int .i64 a.number, .int .i64 a.size, .string a.root, .int .i64 a.taken, .string a.takenRoot] = u1 at D1 D2 ⊢
    refine wpAnyH_ready (rs := [5]) (by decide +kernel) (by simp) ?_
    refine AllReadyH.cons (o := _) rfl (fun K hK => ?_) AllReadyH.nil
    obtain ⟨z5, hz5, Bz⟩ := D1.2.2.2.2.1
    refine wp_store_here 42 _ _ rfl rfl (r + 1) 0 [.int .i64 b.number, .int .i64 b.size, .string b.root, .int .i64 b.taken, .string b.takenRoot] rfl rfl (Bz.there 0 5 (by omega)) (by kernel_rfl) (by simp [Value.oneCell']) ?_
    obtain ⟨F1, F2⟩ := LL.out2 D1 (Nat.le_refl _) hwr hgr1 hvr1 hqr1 [.int .i64 b.number, .int .i64 b.size, .string b.root, .int .i64 b.taken, .string b.takenRoot] rfl
    have D3 := D2.farCells (g' := r + 1) (by omega) [.int .i64 b.number, .int .i64 b.size, .string b.root, .int .i64 b.taken, .string b.takenRoot] 0
    refine hK.out _ _ F1 (fun _ => ?_)
    clear hK K Bz hz5 z5
    (try simp only [Act.put, List.getElem_toArray, List.getElem_cons_zero, List.getElem_cons_succ, List.setIfInBounds_toArray, List.set_cons_zero, List.set_cons_succ])
    generalize u1.setCells (r + 1) 0 [.int .i64 b.number, .int .i64 b.size, .string b.root, .int .i64 b.taken, .string b.takenRoot] = u2 at F1 F2 D3 ⊢
    refine wpAnyH_done (by kernel_rfl) ?_ _
    go_wp2_with fail
    refine ret_heads (s := 2) (p := 3) (q := 4) (t := 42) (t' := 42) rfl rfl rfl D3 F2 Try.underlying42 rfl (by kernel_rfl) (by kernel_rfl) rfl ?_
    exact ⟨F1.2.2.2.2.2, (n : Int), a, b, by omega, by omega, Ha.out, Hb.out, rfl⟩
  have f0 : (x == 0) = false := by simpa using x0
  by_cases x1 : x = 1
  · have f1 : (x == 1) = true := by simpa using x1
    clear x1
    go_wp2_with fail
    refine (l01Text_any r g A c l n _ (by omega) L.1).mono ?_
    rintro e w7 ⟨s, hs, rfl, C7, k⟩
    replace L := L.call hwg hrg hrg1 hvg hqg C7 k; clear C7 k
    obtain ⟨hc, hf⟩ := L.2.2.1.rules
    go_upto_region 12 with fail
    clear hc hf
    have Hb0 := Lib.hid (show HeadD.Ok ⟨a.number, a.size, s, a.taken, a.takenRoot⟩ from ⟨Ha.out.1, Ha.out.2.1, by show s.size ≤ maxLen; unfold maxLen; omega, Ha.out.2.2.2⟩)
    replace L := LL.put L hrq0 hwq hgq hvq hrq hrq1 [.string s] 2 ⟨a.number, a.size, s, a.taken, a.takenRoot⟩ (by simp) rfl
    change Code.wp _ _ _ _ (w7.setCells q 2 [.string s])
    generalize w7.setCells q 2 [.string s] = w8 at *
    obtain ⟨b, hbb⟩ : ∃ b : HeadD, b = ⟨a.number, a.size, s, a.taken, a.takenRoot⟩ := ⟨_, rfl⟩
    rw [← hbb] at L Hb0
    clear hbb
    have Hb := Lib.hid (Hb0.out)
    refine wp_region_held_drew (S := LL w r g r v q A c l a b) (by kernel_rfl) (L.ext ⟨rfl, rfl, rfl, Nat.le_refl _, fun _ _ => rfl⟩) (fun hHeld => ?_)
    clear L
    refine wpAnyH_take (i := 0) (oi := _) (v := ?w0) rfl (by kernel_rfl) (by kernel_rfl) (by kernel_rfl) (fun _ _ _ h => h) (Or.inl ⟨by first | (go_simp; done) | rfl, ?z0⟩) hHeld ?rest0
    case z0 => (intro w9 h9; go_simp; (try with_reducible rfl))
    case rest0 =>
    (try simp only [Act.put, List.getElem_toArray, List.getElem_cons_zero, List.getElem_cons_succ, List.setIfInBounds_toArray, List.set_cons_zero, List.set_cons_succ])
    refine wpAnyH_take (i := 1) (oi := _) (v := _) rfl (by kernel_rfl) (by kernel_rfl) (by kernel_rfl) (fun _ _ _ h => h) (yieldsIf_load_mid (by rfl) 42 _ rfl v 0 rfl [.int .i64 a.number, .int .i64 a.size, .string a.root, .int .i64 a.taken, .string a.takenRoot] _ (fun w' h => Blk.range h.2.1) Try.underlying42 rfl (by kernel_rfl)) hHeld ?_
    (try simp only [Act.put, List.getElem_toArray, List.getElem_cons_zero, List.getElem_cons_succ, List.setIfInBounds_toArray, List.set_cons_zero, List.set_cons_succ])
    refine wpAnyH_take (i := 2) (oi := _) (v := _) rfl (by kernel_rfl) (by kernel_rfl) (by kernel_rfl) (fun _ _ _ h => h) (yieldsIf_load_mid (by rfl) 42 _ rfl q 0 rfl [.int .i64 b.number, .int .i64 b.size, .string b.root, .int .i64 b.taken, .string b.takenRoot] _ (fun w' h => Blk.range h.2.2.1) Try.underlying42 rfl (by kernel_rfl)) hHeld ?_
    (try simp only [Act.put, List.getElem_toArray, List.getElem_cons_zero, List.getElem_cons_succ, List.setIfInBounds_toArray, List.set_cons_zero, List.set_cons_succ])
    refine wpAnyH_take (i := 3) (oi := _) (v := ?w3) rfl (by kernel_rfl) (by kernel_rfl) (by kernel_rfl) (fun _ _ _ h => h) (Or.inl ⟨by first | (go_simp; done) | rfl, ?z3⟩) hHeld ?rest3
    case z3 => (intro w9 h9; go_simp; (try with_reducible rfl))
    case rest3 =>
    (try simp only [Act.put, List.getElem_toArray, List.getElem_cons_zero, List.getElem_cons_succ, List.setIfInBounds_toArray, List.set_cons_zero, List.set_cons_succ])
    refine wpAnyH_ready (rs := [4]) (by decide +kernel) (by simp) ?_
    refine AllReadyH.cons (o := _) rfl (fun K hK => ?_) AllReadyH.nil
    obtain ⟨z4, hz4, Bz⟩ := hHeld.2.2.2.1
    refine wp_store_here 42 _ _ rfl rfl r 0 [.int .i64 a.number, .int .i64 a.size, .string a.root, .int .i64 a.taken, .string a.takenRoot] rfl rfl (Bz.there 0 5 (by omega)) (by kernel_rfl) (by simp [Value.oneCell']) ?_
    obtain ⟨D1, D2⟩ := LL.out1 hHeld (Nat.le_refl _) hwr hgr hvr hqr [.int .i64 a.number, .int .i64 a.size, .string a.root, .int .i64 a.taken, .string a.takenRoot] rfl
    refine hK.out _ _ D1 (fun _ => ?_)
    clear hK K Bz hz4 z4
    (try simp only [Act.put, List.getElem_toArray, List.getElem_cons_zero, List.getElem_cons_succ, List.setIfInBounds_toArray, List.set_cons_zero, List.set_cons_succ])
    generalize w8.drew.setCells r 0 [.int .i64 a.number, .int .i64 a.size, .string a.root, .int .i64 a.taken, .string a.takenRoot] = u1 at D1 D2 ⊢
    refine wpAnyH_ready (rs := [5]) (by decide +kernel) (by simp) ?_
    refine AllReadyH.cons (o := _) rfl (fun K hK => ?_) AllReadyH.nil
    obtain ⟨z5, hz5, Bz⟩ := D1.2.2.2.2.1
    refine wp_store_here 42 _ _ rfl rfl (r + 1) 0 [.int .i64 b.number, .int .i64 b.size, .string b.root, .int .i64 b.taken, .string b.takenRoot] rfl rfl (Bz.there 0 5 (by omega)) (by kernel_rfl) (by simp [Value.oneCell']) ?_
    obtain ⟨F1, F2⟩ := LL.out2 D1 (Nat.le_refl _) hwr hgr1 hvr1 hqr1 [.int .i64 b.number, .int .i64 b.size, .string b.root, .int .i64 b.taken, .string b.takenRoot] rfl
    have D3 := D2.farCells (g' := r + 1) (by omega) [.int .i64 b.number, .int .i64 b.size, .string b.root, .int .i64 b.taken, .string b.takenRoot] 0
    refine hK.out _ _ F1 (fun _ => ?_)
    clear hK K Bz hz5 z5
    (try simp only [Act.put, List.getElem_toArray, List.getElem_cons_zero, List.getElem_cons_succ, List.setIfInBounds_toArray, List.set_cons_zero, List.set_cons_succ])
    generalize u1.setCells (r + 1) 0 [.int .i64 b.number, .int .i64 b.size, .string b.root, .int .i64 b.taken, .string b.takenRoot] = u2 at F1 F2 D3 ⊢
    refine wpAnyH_done (by kernel_rfl) ?_ _
    go_wp2_with fail
    refine ret_heads (s := 2) (p := 3) (q := 4) (t := 42) (t' := 42) rfl rfl rfl D3 F2 Try.underlying42 rfl (by kernel_rfl) (by kernel_rfl) rfl ?_
    exact ⟨F1.2.2.2.2.2, (n : Int), a, b, by omega, by omega, Ha.out, Hb.out, rfl⟩
  have f1 : (x == 1) = false := by simpa using x1
  by_cases x2 : x = 2
  · have f2 : (x == 2) = true := by simpa using x2
    clear x2
    go_wp2_with fail
    refine (l01Text_any r g A c l n _ (by omega) L.1).mono ?_
    rintro e w7 ⟨s, hs, rfl, C7, k⟩
    replace L := L.call hwg hrg hrg1 hvg hqg C7 k; clear C7 k
    obtain ⟨hc, hf⟩ := L.2.2.1.rules
    go_upto_region 12 with fail
    clear hc hf
    have Hb0 := Lib.hid (show HeadD.Ok ⟨a.number, a.size, a.root, a.taken, s⟩ from ⟨Ha.out.1, Ha.out.2.1, Ha.out.2.2.1, Ha.out.2.2.2.1, by show s.size ≤ maxLen; unfold maxLen; omega⟩)
    replace L := LL.put L hrq0 hwq hgq hvq hrq hrq1 [.string s] 4 ⟨a.number, a.size, a.root, a.taken, s⟩ (by simp) rfl
    change Code.wp _ _ _ _ (w7.setCells q 4 [.string s])
    generalize w7.setCells q 4 [.string s] = w8 at *
    obtain ⟨b, hbb⟩ : ∃ b : HeadD, b = ⟨a.number, a.size, a.root, a.taken, s⟩ := ⟨_, rfl⟩
    rw [← hbb] at L Hb0
    clear hbb
    have Hb := Lib.hid (Hb0.out)
    refine wp_region_held_drew (S := LL w r g r v q A c l a b) (by kernel_rfl) (L.ext ⟨rfl, rfl, rfl, Nat.le_refl _, fun _ _ => rfl⟩) (fun hHeld => ?_)
    clear L
    refine wpAnyH_take (i := 0) (oi := _) (v := ?w0) rfl (by kernel_rfl) (by kernel_rfl) (by kernel_rfl) (fun _ _ _ h => h) (Or.inl ⟨by first | (go_simp; done) | rfl, ?z0⟩) hHeld ?rest0
    case z0 => (intro w9 h9; go_simp; (try with_reducible rfl))
    case rest0 =>
    (try simp only [Act.put, List.getElem_toArray, List.getElem_cons_zero, List.getElem_cons_succ, List.setIfInBounds_toArray, List.set_cons_zero, List.set_cons_succ])
    refine wpAnyH_take (i := 1) (oi := _) (v := _) rfl (by kernel_rfl) (by kernel_rfl) (by kernel_rfl) (fun _ _ _ h => h) (yieldsIf_load_mid (by rfl) 42 _ rfl v 0 rfl [.int .i64 a.number, .int .i64 a.size, .string a.root, .int .i64 a.taken, .string a.takenRoot] _ (fun w' h => Blk.range h.2.1) Try.underlying42 rfl (by kernel_rfl)) hHeld ?_
    (try simp only [Act.put, List.getElem_toArray, List.getElem_cons_zero, List.getElem_cons_succ, List.setIfInBounds_toArray, List.set_cons_zero, List.set_cons_succ])
    refine wpAnyH_take (i := 2) (oi := _) (v := _) rfl (by kernel_rfl) (by kernel_rfl) (by kernel_rfl) (fun _ _ _ h => h) (yieldsIf_load_mid (by rfl) 42 _ rfl q 0 rfl [.int .i64 b.number, .int .i64 b.size, .string b.root, .int .i64 b.taken, .string b.takenRoot] _ (fun w' h => Blk.range h.2.2.1) Try.underlying42 rfl (by kernel_rfl)) hHeld ?_
    (try simp only [Act.put, List.getElem_toArray, List.getElem_cons_zero, List.getElem_cons_succ, List.setIfInBounds_toArray, List.set_cons_zero, List.set_cons_succ])
    refine wpAnyH_take (i := 3) (oi := _) (v := ?w3) rfl (by kernel_rfl) (by kernel_rfl) (by kernel_rfl) (fun _ _ _ h => h) (Or.inl ⟨by first | (go_simp; done) | rfl, ?z3⟩) hHeld ?rest3
    case z3 => (intro w9 h9; go_simp; (try with_reducible rfl))
    case rest3 =>
    (try simp only [Act.put, List.getElem_toArray, List.getElem_cons_zero, List.getElem_cons_succ, List.setIfInBounds_toArray, List.set_cons_zero, List.set_cons_succ])
    refine wpAnyH_ready (rs := [4]) (by decide +kernel) (by simp) ?_
    refine AllReadyH.cons (o := _) rfl (fun K hK => ?_) AllReadyH.nil
    obtain ⟨z4, hz4, Bz⟩ := hHeld.2.2.2.1
    refine wp_store_here 42 _ _ rfl rfl r 0 [.int .i64 a.number, .int .i64 a.size, .string a.root, .int .i64 a.taken, .string a.takenRoot] rfl rfl (Bz.there 0 5 (by omega)) (by kernel_rfl) (by simp [Value.oneCell']) ?_
    obtain ⟨D1, D2⟩ := LL.out1 hHeld (Nat.le_refl _) hwr hgr hvr hqr [.int .i64 a.number, .int .i64 a.size, .string a.root, .int .i64 a.taken, .string a.takenRoot] rfl
    refine hK.out _ _ D1 (fun _ => ?_)
    clear hK K Bz hz4 z4
    (try simp only [Act.put, List.getElem_toArray, List.getElem_cons_zero, List.getElem_cons_succ, List.setIfInBounds_toArray, List.set_cons_zero, List.set_cons_succ])
    generalize w8.drew.setCells r 0 [.int .i64 a.number, .int .i64 a.size, .string a.root, .int .i64 a.taken, .string a.takenRoot] = u1 at D1 D2 ⊢
    refine wpAnyH_ready (rs := [5]) (by decide +kernel) (by simp) ?_
    refine AllReadyH.cons (o := _) rfl (fun K hK => ?_) AllReadyH.nil
    obtain ⟨z5, hz5, Bz⟩ := D1.2.2.2.2.1
    refine wp_store_here 42 _ _ rfl rfl (r + 1) 0 [.int .i64 b.number, .int .i64 b.size, .string b.root, .int .i64 b.taken, .string b.takenRoot] rfl rfl (Bz.there 0 5 (by omega)) (by kernel_rfl) (by simp [Value.oneCell']) ?_
    obtain ⟨F1, F2⟩ := LL.out2 D1 (Nat.le_refl _) hwr hgr1 hvr1 hqr1 [.int .i64 b.number, .int .i64 b.size, .string b.root, .int .i64 b.taken, .string b.takenRoot] rfl
    have D3 := D2.farCells (g' := r + 1) (by omega) [.int .i64 b.number, .int .i64 b.size, .string b.root, .int .i64 b.taken, .string b.takenRoot] 0
    refine hK.out _ _ F1 (fun _ => ?_)
    clear hK K Bz hz5 z5
    (try simp only [Act.put, List.getElem_toArray, List.getElem_cons_zero, List.getElem_cons_succ, List.setIfInBounds_toArray, List.set_cons_zero, List.set_cons_succ])
    generalize u1.setCells (r + 1) 0 [.int .i64 b.number, .int .i64 b.size, .string b.root, .int .i64 b.taken, .string b.takenRoot] = u2 at F1 F2 D3 ⊢
    refine wpAnyH_done (by kernel_rfl) ?_ _
    go_wp2_with fail
    refine ret_heads (s := 2) (p := 3) (q := 4) (t := 42) (t' := 42) rfl rfl rfl D3 F2 Try.underlying42 rfl (by kernel_rfl) (by kernel_rfl) rfl ?_
    exact ⟨F1.2.2.2.2.2, (n : Int), a, b, by omega, by omega, Ha.out, Hb.out, rfl⟩
  have f2 : (x == 2) = false := by simpa using x2
  go_upto_region 12 with fail
  have Hb := Lib.hid (Ha.out)
  refine wp_region_held_drew (S := LL w r g r v q A c l a a) (by kernel_rfl) (L.ext ⟨rfl, rfl, rfl, Nat.le_refl _, fun _ _ => rfl⟩) (fun hHeld => ?_)
  clear L
  refine wpAnyH_take (i := 0) (oi := _) (v := ?w0) rfl (by kernel_rfl) (by kernel_rfl) (by kernel_rfl) (fun _ _ _ h => h) (Or.inl ⟨by first | (go_simp; done) | rfl, ?z0⟩) hHeld ?rest0
  case z0 => (intro w9 h9; go_simp; (try with_reducible rfl))
  case rest0 =>
  (try simp only [Act.put, List.getElem_toArray, List.getElem_cons_zero, List.getElem_cons_succ, List.setIfInBounds_toArray, List.set_cons_zero, List.set_cons_succ])
  refine wpAnyH_take (i := 1) (oi := _) (v := _) rfl (by kernel_rfl) (by kernel_rfl) (by kernel_rfl) (fun _ _ _ h => h) (yieldsIf_load_mid (by rfl) 42 _ rfl v 0 rfl [.int .i64 a.number, .int .i64 a.size, .string a.root, .int .i64 a.taken, .string a.takenRoot] _ (fun w' h => Blk.range h.2.1) Try.underlying42 rfl (by kernel_rfl)) hHeld ?_
  (try simp only [Act.put, List.getElem_toArray, List.getElem_cons_zero, List.getElem_cons_succ, List.setIfInBounds_toArray, List.set_cons_zero, List.set_cons_succ])
  refine wpAnyH_take (i := 2) (oi := _) (v := _) rfl (by kernel_rfl) (by kernel_rfl) (by kernel_rfl) (fun _ _ _ h => h) (yieldsIf_load_mid (by rfl) 42 _ rfl q 0 rfl [.int .i64 a.number, .int .i64 a.size, .string a.root, .int .i64 a.taken, .string a.takenRoot] _ (fun w' h => Blk.range h.2.2.1) Try.underlying42 rfl (by kernel_rfl)) hHeld ?_
  (try simp only [Act.put, List.getElem_toArray, List.getElem_cons_zero, List.getElem_cons_succ, List.setIfInBounds_toArray, List.set_cons_zero, List.set_cons_succ])
  refine wpAnyH_take (i := 3) (oi := _) (v := ?w3) rfl (by kernel_rfl) (by kernel_rfl) (by kernel_rfl) (fun _ _ _ h => h) (Or.inl ⟨by first | (go_simp; done) | rfl, ?z3⟩) hHeld ?rest3
  case z3 => (intro w9 h9; go_simp; (try with_reducible rfl))
  case rest3 =>
  (try simp only [Act.put, List.getElem_toArray, List.getElem_cons_zero, List.getElem_cons_succ, List.setIfInBounds_toArray, List.set_cons_zero, List.set_cons_succ])
  refine wpAnyH_ready (rs := [4]) (by decide +kernel) (by simp) ?_
  refine AllReadyH.cons (o := _) rfl (fun K hK => ?_) AllReadyH.nil
  obtain ⟨z4, hz4, Bz⟩ := hHeld.2.2.2.1
  refine wp_store_here 42 _ _ rfl rfl r 0 [.int .i64 a.number, .int .i64 a.size, .string a.root, .int .i64 a.taken, .string a.takenRoot] rfl rfl (Bz.there 0 5 (by omega)) (by kernel_rfl) (by simp [Value.oneCell']) ?_
  obtain ⟨D1, D2⟩ := LL.out1 hHeld (Nat.le_refl _) hwr hgr hvr hqr [.int .i64 a.number, .int .i64 a.size, .string a.root, .int .i64 a.taken, .string a.takenRoot] rfl
  refine hK.out _ _ D1 (fun _ => ?_)
  clear hK K Bz hz4 z4
  (try simp only [Act.put, List.getElem_toArray, List.getElem_cons_zero, List.getElem_cons_succ, List.setIfInBounds_toArray, List.set_cons_zero, List.set_cons_succ])
  generalize w6.drew.setCells r 0 [.int .i64 a.number, .int .i64 a.size, .string a.root, .int .i64 a.taken, .string a.takenRoot] = u1 at D1 D2 ⊢
  refine wpAnyH_ready (rs := [5]) (by decide +kernel) (by simp) ?_
  refine AllReadyH.cons (o := _) rfl (fun K hK => ?_) AllReadyH.nil
  obtain ⟨z5, hz5, Bz⟩ := D1.2.2.2.2.1
  refine wp_store_here 42 _ _ rfl rfl (r + 1) 0 [.int .i64 a.number, .int .i64 a.size, .string a.root, .int .i64 a.taken, .string a.takenRoot] rfl rfl (Bz.there 0 5 (by omega)) (by kernel_rfl) (by simp [Value.oneCell']) ?_
  obtain ⟨F1, F2⟩ := LL.out2 D1 (Nat.le_refl _) hwr hgr1 hvr1 hqr1 [.int .i64 a.number, .int .i64 a.size, .string a.root, .int .i64 a.taken, .string a.takenRoot] rfl
  have D3 := D2.farCells (g' := r + 1) (by omega) [.int .i64 a.number, .int .i64 a.size, .string a.root, .int .i64 a.taken, .string a.takenRoot] 0
  refine hK.out _ _ F1 (fun _ => ?_)
  clear hK K Bz hz5 z5
  (try simp only [Act.put, List.getElem_toArray, List.getElem_cons_zero, List.getElem_cons_succ, List.setIfInBounds_toArray, List.set_cons_zero, List.set_cons_succ])
  generalize u1.setCells (r + 1) 0 [.int .i64 a.number, .int .i64 a.size, .string a.root, .int .i64 a.taken, .string a.takenRoot] = u2 at F1 F2 D3 ⊢
  refine wpAnyH_done (by kernel_rfl) ?_ _
  go_wp2_with fail
  refine ret_heads (s := 2) (p := 3) (q := 4) (t := 42) (t' := 42) rfl rfl rfl D3 F2 Try.underlying42 rfl (by kernel_rfl) (by kernel_rfl) rfl ?_
  exact ⟨F1.2.2.2.2.2, (n : Int), a, a, by omega, by omega, Ha.out, Hb.out, rfl⟩
end Go.Proofs.Yteaphajagmbllaa

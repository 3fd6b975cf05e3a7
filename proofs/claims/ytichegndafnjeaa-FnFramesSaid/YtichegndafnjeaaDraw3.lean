/-
  The reference's drawing: picks, a topic, a deed. No condition.
-/
import Derived.Test.YtichegndafnjeaaDraw2
import Derived.Test.YtichegndafnjeaaTypes
import Derived.Deep.RegionHeld3
namespace Go.Proofs.Ytichegndafnjeaa
open Go.RowKit
set_option linter.unusedVariables false

set_option maxHeartbeats 2000000 in
set_option maxRecDepth 100000 in
theorem l01Pick_any (B g p : Nat) (A : Option Addr) (c cp : Nat) (l : List Int) (ts : List ByteArray) (w : World) (hpos : 0 < ts.length) (hts : ts.length ≤ 256) (hpg : p ≠ g) (hp : Blk w p 9 (ts.map Value.string).toArray) (hC : CurAt w B g A c l) :
    Calls Try.prog 54 #[.pointer (some ⟨g, 0, none⟩), .slice (some ⟨p, 0, none⟩) ts.length cp] w fun e w' => ∃ t ∈ ts, e = .returned (.string t) ∧ CurAt w' B g A c l ∧ ExtBut g w w' := by
  go_enter Try.func54, Try.ntmps54
  go_wp2_with fail
  refine (l01Below_any B g A c l _ _ (by omega) (by omega) hC).mono ?_
  rintro e w1 ⟨x, ⟨hx0, hx1⟩, rfl, h1, k1⟩
  obtain ⟨k, rfl⟩ : ∃ k : Nat, x = (k : Int) := ⟨x.toNat, by omega⟩
  have hk : k < ts.length := by omega
  have hp1 := hp.extBut k1 hpg
  have c0 : w1.cell? ⟨p, k, none⟩ = some (.string ts[k]) := by rw [hp1.cell]; simp [hk]
  have c1 : w1.cell? ⟨p, 0 + k * 1, none⟩ = some (.string ts[k]) := by rw [Nat.mul_one, Nat.zero_add]; exact c0
  have hm := List.getElem_mem hk
  have hw : IntKind.i64.wrap (k : Int) = (k : Int) := IntWalk.i64_in _ (by omega)
  clear hp1 hp
  generalize ts[k] = t at *
  go_wp2_with fail
  go_ret
  exact ⟨t, hm, rfl, h1, k1⟩
set_option maxHeartbeats 2000000 in
theorem l01Once_any (B g : Nat) (A : Option Addr) (c : Nat) (l : List Int) (n : Int) (w : World) (hn0 : 0 < n) (hn1 : n ≤ 1099511627776) (hC : CurAt w B g A c l) :
    Calls Try.prog 55 #[.pointer (some ⟨g, 0, none⟩), .int .i64 n] w fun e w' => ∃ b, e = .returned (.bool b) ∧ CurAt w' B g A c l ∧ ExtBut g w w' := by
  go_enter Try.func55, Try.ntmps55
  go_wp2_with fail
  refine (l01Below_any B g A c l _ _ hn0 hn1 hC).mono ?_
  rintro e w1 ⟨x, ⟨hx0, hx1⟩, rfl, h1, k1⟩
  go_wp2_with fail
  go_ret
  exact ⟨_, rfl, h1, k1⟩
def topics : List ByteArray := [⟨#[110, 101, 119, 115]⟩, ⟨#[112, 97, 121, 45, 55]⟩, ⟨#[97]⟩]
set_option maxHeartbeats 2000000 in
theorem l09Topic_any (B g : Nat) (A : Option Addr) (c : Nat) (l : List Int) (w : World) (hC : CurAt w B g A c l) :
    Calls Try.prog 52 #[.pointer (some ⟨g, 0, none⟩)] w fun e w' => ∃ t ∈ topics, e = .returned (.string t) ∧ CurAt w' B g A c l ∧ ExtBut g w w' := by
  go_enter Try.func52, Try.ntmps52
  go_wp2_with fail
  refine (l01Pick_any B g w.heap.size A c _ l topics _ (by decide) (by decide) (by have := hC.lt; omega) (Blk.new _ _ _) (hC.alloc _)).mono ?_
  rintro e w1 ⟨t, ht, rfl, h1, k1⟩
  go_wp2_with fail
  go_ret
  exact ⟨t, ht, rfl, h1, (ExtBut.alloc (ExtBut.refl _ _) _).next k1⟩
def whos : List ByteArray := [⟨#[97, 110, 110]⟩, ⟨#[98, 111, 98]⟩, ⟨#[101, 118, 101]⟩]
def DeedS (w : World) (B g q q2 : Nat) (A : Option Addr) (c : Nat) (l : List Int) (E R : Array Value) (w' : World) : Prop :=
  Ext w w' ∧ CurAt w' B g A c l ∧ Blk w' q 44 E ∧ Blk w' q2 46 R ∧ (∃ a : Array Value, a.size = 5 ∧ Blk w' w.heap.size 44 a) ∧ (∃ b : Array Value, b.size = 3 ∧ Blk w' (w.heap.size + 1) 46 b)
theorem DeedS.call {w : World} {B g q q2 : Nat} {A : Option Addr} {c : Nat} {l : List Int} {E R : Array Value} {w1 w2 : World} (h : DeedS w B g q q2 A c l E R w1) (hWg : w.heap.size ≤ g) (hg1 : w.heap.size ≠ g) (hg2 : w.heap.size + 1 ≠ g) (hg3 : q ≠ g) (hg5 : q2 ≠ g)
    (C : CurAt w2 B g A c l) (k : ExtBut g w1 w2) : DeedS w B g q q2 A c l E R w2 := by
  obtain ⟨h1, h2, h3, h4, ⟨a, ha, h5⟩, ⟨b, hb, h6⟩⟩ := h
  exact ⟨h1.nextBut hWg k, C, h3.extBut k hg3, h4.extBut k hg5, ⟨a, ha, h5.extBut k hg1⟩, ⟨b, hb, h6.extBut k hg2⟩⟩
theorem DeedS.ext {w : World} {B g q q2 : Nat} {A : Option Addr} {c : Nat} {l : List Int} {E R : Array Value} {w1 w2 : World} (h : DeedS w B g q q2 A c l E R w1) (k : Ext w1 w2) : DeedS w B g q q2 A c l E R w2 := by
  obtain ⟨h1, h2, h3, h4, ⟨a, ha, h5⟩, ⟨b, hb, h6⟩⟩ := h
  exact ⟨h1.next k, h2.ext k, h3.ext k, h4.ext k, ⟨a, ha, h5.ext k⟩, ⟨b, hb, h6.ext k⟩⟩
theorem DeedS.put1 {w : World} {B g q q2 : Nat} {A : Option Addr} {c : Nat} {l : List Int} {E R : Array Value} {w1 : World} (h : DeedS w B g q q2 A c l E R w1) (hB : B ≤ w.heap.size) (hg1 : w.heap.size ≠ g) (hq : w.heap.size < q) (hq2 : w.heap.size < q2) (vs : List Value) (hv : vs.length = 5) : DeedS w B g q q2 A c l E R (w1.setCells w.heap.size 0 vs) ∧ Blk (w1.setCells w.heap.size 0 vs) w.heap.size 44 vs.toArray := by
  obtain ⟨h1, h2, h3, h4, ⟨a, ha, h5⟩, ⟨b, hb, h6⟩⟩ := h
  have k := h5.put 0 vs vs.toArray (by omega) (by rw [hv, List.take_zero, List.nil_append, List.drop_eq_nil_of_le (by rw [Array.length_toList]; omega), List.append_nil])
  exact ⟨⟨ext_setCells (Nat.le_refl _) vs 0 w1 h1, h2.far hB hg1.symm vs 0, h3.farCells (by omega) vs 0 w1, h4.farCells (by omega) vs 0 w1, ⟨_, by simp [hv], k⟩, ⟨b, hb, h6.farCells (by omega) vs 0 w1⟩⟩, k⟩
theorem DeedS.put2 {w : World} {B g q q2 : Nat} {A : Option Addr} {c : Nat} {l : List Int} {E R : Array Value} {w1 : World} (h : DeedS w B g q q2 A c l E R w1) (hB : B ≤ w.heap.size) (hg1 : w.heap.size + 1 ≠ g) (hq : w.heap.size + 1 < q) (hq2 : w.heap.size + 1 < q2) (vs : List Value) (hv : vs.length = 3) : DeedS w B g q q2 A c l E R (w1.setCells (w.heap.size + 1) 0 vs) ∧ Blk (w1.setCells (w.heap.size + 1) 0 vs) (w.heap.size + 1) 46 vs.toArray := by
  obtain ⟨h1, h2, h3, h4, ⟨a, ha, h5⟩, ⟨b, hb, h6⟩⟩ := h
  have k := h6.put 0 vs vs.toArray (by omega) (by rw [hv, List.take_zero, List.nil_append, List.drop_eq_nil_of_le (by rw [Array.length_toList]; omega), List.append_nil])
  exact ⟨⟨ext_setCells (by omega) vs 0 w1 h1, h2.far (by omega) hg1.symm vs 0, h3.farCells (by omega) vs 0 w1, h4.farCells (by omega) vs 0 w1, ⟨a, ha, h5.farCells (by omega) vs 0 w1⟩, ⟨_, by simp [hv], k⟩⟩, k⟩
theorem wp_store_here {P : Program} {op : Oper} {a : Act} {w : World} {K : Act → World → Prop} {Q : Exit → Act → World → Prop} (ty : TypeId) (x y : Operand) (ho : op.op = .store ty x y) (hd : op.dst = none)
    (b o : Nat) (cells : List Value) (hx : a.eval x = .pointer (some ⟨b, o, none⟩)) (hy : a.eval y = .agg cells.toArray)
    (ht : w.there b o cells.length) (hi : (P.info? ty).map (·.size) = some cells.length) (h1 : ∀ v ∈ cells, v.oneCell' = true)
    (h : K a (w.setCells b o cells)) : op.wp P a w K Q := wp_store_mid ty x y ho b o cells.toArray hx hy (by simpa using ht) (by simpa using hi) (all_oneCell_toArray h1) (by rw [hd]; exact h)
theorem ret_deed {P : Program} {fn : Func} {R : Ending → World → Prop} {a : Act} {w : World} {s p q u : Tmp} {ty ty' g g' t t' : Nat} {cs cs' : Array Value} {d d' : TypeDesc} (h : fn.results = #[.tmp s, .cell p ty, .cell q ty', .tmp u])
    (hp : a.tmps.getD p undef = .pointer (some ⟨g, 0, none⟩)) (hq : a.tmps.getD q undef = .pointer (some ⟨g', 0, none⟩)) (hB : Blk w g t cs) (hB' : Blk w g' t' cs') (hu : P.underlying ty = some d) (hu' : P.underlying ty' = some d') (hd : (match d with | .struct _ | .array _ _ => true | _ => false) = true) (hd' : (match d' with | .struct _ | .array _ _ => true | _ => false) = true) (hi : (P.info? ty).map (·.size) = some cs.size) (hi' : (P.info? ty').map (·.size) = some cs'.size)
    (hdef : a.defers = []) (hR : R (.returned (.tuple #[a.tmps.getD s undef, .agg cs, .agg cs', a.tmps.getD u undef])) w) : bodyPost P fn R .ret a w := by
  refine bodyPost_ret (v := .tuple #[a.tmps.getD s undef, .agg cs, .agg cs', a.tmps.getD u undef]) ?_ hdef hR
  have h1 := run_loadVar_row w g t ty cs (0, 0) d hB hu hd hi
  have h2 := run_loadVar_row w g' t' ty' cs' (0, 0) d' hB' hu' hd' hi'
  simp only [results, h]
  rw [show (#[ResultVar.tmp s, ResultVar.cell p ty, ResultVar.cell q ty', ResultVar.tmp u] : Array ResultVar) = #[.tmp s, .cell p ty, .cell q ty', .tmp u] from rfl]
  simp [Sem.run_bind, Result.andThen]
  have hp' : a.tmps[p]?.getD undef = .pointer (some ⟨g, 0, none⟩) := by rw [← hp]; simp
  have hq' : a.tmps[q]?.getD undef = .pointer (some ⟨g', 0, none⟩) := by rw [← hq]; simp
  rw [hp', hq']
  simp [asAddr, Sem.run_pure, Result.andThen, h1, h2]
set_option maxHeartbeats 2000000 in
set_option maxRecDepth 100000 in
theorem DrawDeed_any (A : Option Addr) (c : Nat) (l : List Int) (w : World) (hlen : l.length ≤ maxLen) (hin : ∀ x ∈ l, ByteIn x) (hr : ReadsL w w.heap.size byteC 1 A l) :
    Calls Try.prog 18 #[.slice A l.length c] w fun e w' => Ext w w' ∧ ∃ (x : Int) (t1 : ByteArray) (n1 : Nat) (s1 s2 who t2 : ByteArray) (n2 : Int) (sl : Value), t1 ∈ topics ∧ s1.size ≤ 2 ∧ s2.size ≤ 8 ∧ who ∈ whos ∧ t2 ∈ topics ∧ n1 < 100 ∧ 0 ≤ n2 ∧ n2 < 3 ∧
      e = .returned (.tuple #[.int .i64 x, .agg #[.string t1, .int .i64 0, .int .i64 n1, .string s1, .string s2], .agg #[.string who, .string t2, .int .i64 n2], sl]) := by
  go_enter Try.func18, Try.ntmps18
  go_wp2_with fail
  have P0 : w.heap.size ≤ ((w.alloc (.cells #[.string ⟨#[]⟩, .int .i64 0, .int .i64 0, .string ⟨#[]⟩, .string ⟨#[]⟩] 44)).alloc (.cells #[.string ⟨#[]⟩, .string ⟨#[]⟩, .int .i64 0] 46)).heap.size := by simp; omega
  have E0 := Ext.new (Ext.new (Below.refl w.heap.size w) (.cells #[.string ⟨#[]⟩, .int .i64 0, .int .i64 0, .string ⟨#[]⟩, .string ⟨#[]⟩] 44)) (.cells #[.string ⟨#[]⟩, .string ⟨#[]⟩, .int .i64 0] 46)
  have R1 := (Blk.new w 44 #[.string ⟨#[]⟩, .int .i64 0, .int .i64 0, .string ⟨#[]⟩, .string ⟨#[]⟩]).alloc (.cells #[.string ⟨#[]⟩, .string ⟨#[]⟩, .int .i64 0] 46)
  have R2 := Blk.new (w.alloc (.cells #[.string ⟨#[]⟩, .int .i64 0, .int .i64 0, .string ⟨#[]⟩, .string ⟨#[]⟩] 44)) 46 #[.string ⟨#[]⟩, .string ⟨#[]⟩, .int .i64 0]
  rw [World.size_alloc] at R2
  have hr0 := hr.below E0
  generalize (w.alloc (.cells #[.string ⟨#[]⟩, .int .i64 0, .int .i64 0, .string ⟨#[]⟩, .string ⟨#[]⟩] 44)).alloc (.cells #[.string ⟨#[]⟩, .string ⟨#[]⟩, .int .i64 0] 46) = w0 at *
  refine (l01New_any w.heap.size A c l w0 P0 hlen hin hr0).mono ?_
  rintro e w1 ⟨g, hg, rfl, C1, E1⟩
  have he := E0.next E1
  have hWg : w.heap.size ≤ g := Nat.le_trans E0.size hg
  have hg1 : w.heap.size ≠ g := by have := R2.lt; omega
  have hg2 : w.heap.size + 1 ≠ g := by have := R2.lt; omega
  replace R1 := R1.ext E1
  replace R2 := R2.ext E1
  clear hr hr0 E0 E1
  go_wp2_with fail
  refine ((l01Below_any _ g A c l 3 _ (by decide) (by decide) C1)).mono ?_
  rintro e w2 ⟨x, hx, rfl, C2, k1⟩
  replace he := he.nextBut hWg k1
  replace R1 := R1.extBut k1 hg1
  replace R2 := R2.extBut k1 hg2
  clear C1 k1
  go_wp2_with fail
  refine ((l09Topic_any _ g A c l _ C2)).mono ?_
  rintro e w3 ⟨t1, ht1, rfl, C3, k1⟩
  replace he := he.nextBut hWg k1
  replace R1 := R1.extBut k1 hg1
  replace R2 := R2.extBut k1 hg2
  clear C2 k1
  go_wp2_with fail
  refine ((l01Below_any _ g A c l 100 _ (by decide) (by decide) C3)).mono ?_
  rintro e w4 ⟨n1, ⟨hn1, hn2⟩, rfl, C4, k1⟩
  replace he := he.nextBut hWg k1
  replace R1 := R1.extBut k1 hg1
  replace R2 := R2.extBut k1 hg2
  clear C3 k1
  obtain ⟨n1, rfl⟩ : ∃ k : Nat, n1 = (k : Int) := ⟨n1.toNat, by omega⟩
  go_wp2_with fail
  refine ((l01Below_any _ g A c l 3 _ (by decide) (by decide) C4)).mono ?_
  rintro e w5 ⟨m1, ⟨hm1, hm2⟩, rfl, C5, k1⟩
  replace he := he.nextBut hWg k1
  replace R1 := R1.extBut k1 hg1
  replace R2 := R2.extBut k1 hg2
  clear C4 k1
  obtain ⟨m1, rfl⟩ : ∃ k : Nat, m1 = (k : Int) := ⟨m1.toNat, by omega⟩
  go_wp2_with fail
  refine ((l01Text_any _ g A c l m1 _ (by omega) C5)).mono ?_
  rintro e w6 ⟨s1, hs1, rfl, C6, k1⟩
  replace he := he.nextBut hWg k1
  replace R1 := R1.extBut k1 hg1
  replace R2 := R2.extBut k1 hg2
  clear C5 k1
  go_wp2_with fail
  refine ((l01Below_any _ g A c l 9 _ (by decide) (by decide) C6)).mono ?_
  rintro e w7 ⟨m2, ⟨hm3, hm4⟩, rfl, C7, k1⟩
  replace he := he.nextBut hWg k1
  replace R1 := R1.extBut k1 hg1
  replace R2 := R2.extBut k1 hg2
  clear C6 k1
  obtain ⟨m2, rfl⟩ : ∃ k : Nat, m2 = (k : Int) := ⟨m2.toNat, by omega⟩
  go_wp2_with fail
  refine ((l01Text_any _ g A c l m2 _ (by omega) C7)).mono ?_
  rintro e w8 ⟨s2, hs2, rfl, C8, k1⟩
  replace he := he.nextBut hWg k1
  replace R1 := R1.extBut k1 hg1
  replace R2 := R2.extBut k1 hg2
  clear C7 k1
  have hC8 := C8.lt
  have hq0 : w.heap.size + 1 < w8.heap.size := R2.lt
  go_wp2_with fail
  have R3 := (Blk.new w8 44 #[.string t1, .int .i64 0, .int .i64 (n1 : Int), .string s1, .string s2]).alloc (.cells #[.string ⟨#[97, 110, 110]⟩, .string ⟨#[98, 111, 98]⟩, .string ⟨#[101, 118, 101]⟩] 9)
  have R4 := Blk.new (w8.alloc (.cells #[.string t1, .int .i64 0, .int .i64 (n1 : Int), .string s1, .string s2] 44)) 9 #[.string ⟨#[97, 110, 110]⟩, .string ⟨#[98, 111, 98]⟩, .string ⟨#[101, 118, 101]⟩]
  rw [World.size_alloc] at R4
  replace C8 := (C8.alloc (.cells #[.string t1, .int .i64 0, .int .i64 (n1 : Int), .string s1, .string s2] 44)).alloc (.cells #[.string ⟨#[97, 110, 110]⟩, .string ⟨#[98, 111, 98]⟩, .string ⟨#[101, 118, 101]⟩] 9)
  replace he := Ext.new (Ext.new he (.cells #[.string t1, .int .i64 0, .int .i64 (n1 : Int), .string s1, .string s2] 44)) (.cells #[.string ⟨#[97, 110, 110]⟩, .string ⟨#[98, 111, 98]⟩, .string ⟨#[101, 118, 101]⟩] 9)
  replace R1 := (R1.alloc (.cells #[.string t1, .int .i64 0, .int .i64 (n1 : Int), .string s1, .string s2] 44)).alloc (.cells #[.string ⟨#[97, 110, 110]⟩, .string ⟨#[98, 111, 98]⟩, .string ⟨#[101, 118, 101]⟩] 9)
  replace R2 := (R2.alloc (.cells #[.string t1, .int .i64 0, .int .i64 (n1 : Int), .string s1, .string s2] 44)).alloc (.cells #[.string ⟨#[97, 110, 110]⟩, .string ⟨#[98, 111, 98]⟩, .string ⟨#[101, 118, 101]⟩] 9)
  have hg3 : w8.heap.size ≠ g := by have := hC8; omega
  have hg4 : w8.heap.size + 1 ≠ g := by have := hC8; omega
  have hq1 : w.heap.size + 1 < w8.heap.size := hq0
  clear hC8 hq0
  generalize w8.heap.size = q at *
  generalize (w8.alloc (.cells #[.string t1, .int .i64 0, .int .i64 (n1 : Int), .string s1, .string s2] 44)).alloc (.cells #[.string ⟨#[97, 110, 110]⟩, .string ⟨#[98, 111, 98]⟩, .string ⟨#[101, 118, 101]⟩] 9) = wa at *
  refine ((l01Pick_any _ g (q + 1) A c _ l whos _ (by decide) (by decide) hg4 R4 C8)).mono ?_
  rintro e w9 ⟨who, hwho, rfl, C9, k1⟩
  replace he := he.nextBut hWg k1
  replace R1 := R1.extBut k1 hg1
  replace R2 := R2.extBut k1 hg2
  replace R3 := R3.extBut k1 hg3
  clear C8 k1
  go_wp2_with fail
  refine ((l09Topic_any _ g A c l _ C9)).mono ?_
  rintro e w10 ⟨t2, ht2, rfl, C10, k1⟩
  replace he := he.nextBut hWg k1
  replace R1 := R1.extBut k1 hg1
  replace R2 := R2.extBut k1 hg2
  replace R3 := R3.extBut k1 hg3
  clear C9 k1
  go_wp2_with fail
  refine ((l01Below_any _ g A c l 3 _ (by decide) (by decide) C10)).mono ?_
  rintro e w11 ⟨n2, ⟨hn3, hn4⟩, rfl, C11, k1⟩
  have C11' := C11.lt
  replace he := he.nextBut hWg k1
  replace R1 := R1.extBut k1 hg1
  replace R2 := R2.extBut k1 hg2
  replace R3 := R3.extBut k1 hg3
  clear C10 k1
  go_wp2_with fail
  have R5 := Blk.new w11 46 #[.string who, .string t2, .int .i64 n2]
  replace C11 := C11.alloc (.cells #[.string who, .string t2, .int .i64 n2] 46)
  replace he := Ext.new he (.cells #[.string who, .string t2, .int .i64 n2] 46)
  replace R1 := R1.alloc (.cells #[.string who, .string t2, .int .i64 n2] 46)
  replace R2 := R2.alloc (.cells #[.string who, .string t2, .int .i64 n2] 46)
  have hg5 : w11.heap.size ≠ g := by have := C11'; omega
  have hq2 : q < w11.heap.size := R3.lt
  replace R3 := R3.alloc (.cells #[.string who, .string t2, .int .i64 n2] 46)
  generalize w11.heap.size = q2 at *
  generalize w11.alloc (.cells #[.string who, .string t2, .int .i64 n2] 46) = wb at *
  refine wp_region_held_drew (S := DeedS w w.heap.size g q q2 A c l #[.string t1, .int .i64 0, .int .i64 (n1 : Int), .string s1, .string s2] #[.string who, .string t2, .int .i64 n2]) (by kernel_rfl) (DeedS.ext ⟨he, C11, R3, R5, ⟨_, rfl, R1⟩, ⟨_, rfl, R2⟩⟩ ⟨rfl, rfl, rfl, Nat.le_refl _, fun _ _ => rfl⟩) (fun hHeld => ?_)
  clear he C11 R3 R5 R1 R2 R4
  refine wpAnyH_take (i := 0) (oi := _) (v := ?v0) rfl (by kernel_rfl) (by kernel_rfl) (by kernel_rfl) (fun _ _ _ h => h) (Or.inl ⟨by first | (go_simp; done) | rfl, ?hy0⟩) hHeld ?rest0
  case hy0 => (intro w9 h9; go_simp; (try with_reducible rfl))
  case rest0 =>
  (try simp only [Act.put, List.setIfInBounds_toArray, List.set_cons_zero, List.set_cons_succ])
  refine wpAnyH_take (i := 1) (oi := _) (v := _) rfl (by kernel_rfl) (by kernel_rfl) (by kernel_rfl) (fun _ _ _ h => h) (yieldsIf_load_mid (by rfl) 44 _ rfl q 0 rfl [.string t1, .int .i64 0, .int .i64 (n1 : Int), .string s1, .string s2] _ (fun w' h => Blk.range h.2.2.1) Try.underlying44 rfl (by kernel_rfl)) hHeld ?_
  (try simp only [Act.put, List.setIfInBounds_toArray, List.set_cons_zero, List.set_cons_succ])
  refine wpAnyH_take (i := 2) (oi := _) (v := _) rfl (by kernel_rfl) (by kernel_rfl) (by kernel_rfl) (fun _ _ _ h => h) (yieldsIf_load_mid (by rfl) 46 _ rfl q2 0 rfl [.string who, .string t2, .int .i64 n2] _ (fun w' h => Blk.range h.2.2.2.1) Try.underlying46 rfl (by kernel_rfl)) hHeld ?_
  (try simp only [Act.put, List.setIfInBounds_toArray, List.set_cons_zero, List.set_cons_succ])
  refine wpAnyH_take (i := 3) (oi := _) (v := ?v1) rfl (by kernel_rfl) (by kernel_rfl) (by kernel_rfl) (fun _ _ _ h => h) (Or.inl ⟨by first | (go_simp; done) | rfl, ?hy1⟩) hHeld ?rest1
  case hy1 => (intro w9 h9; go_simp; (try with_reducible rfl))
  case rest1 =>
  (try simp only [Act.put, List.setIfInBounds_toArray, List.set_cons_zero, List.set_cons_succ])
  refine wpAnyH_take (i := 5) (oi := _) (v := ?v2) rfl (by kernel_rfl) (by kernel_rfl) (by kernel_rfl) (fun _ _ _ h => h) (Or.inl ⟨by first | (go_simp; done) | rfl, ?hy2⟩) hHeld ?rest2
  case hy2 => (intro w9 h9; go_simp; (try with_reducible rfl))
  case rest2 =>
  (try simp only [Act.put, List.setIfInBounds_toArray, List.set_cons_zero, List.set_cons_succ])
  refine wpAnyH_take (i := 7) (oi := _) (v := ?v3) rfl (by kernel_rfl) (by kernel_rfl) (by kernel_rfl) (fun _ _ _ h => h) (Or.inl ⟨by first | (go_simp; done) | rfl, ?hy3⟩) hHeld ?rest3
  case hy3 => (intro w9 h9; go_simp; (try with_reducible rfl))
  case rest3 =>
  (try simp only [Act.put, List.setIfInBounds_toArray, List.set_cons_zero, List.set_cons_succ])
  refine wpAnyH_ready (rs := [4]) (by kernel_rfl) (by simp) ?_
  refine AllReadyH.cons (o := _) rfl (fun K hK => ?_) AllReadyH.nil
  go_simp
  refine (l01Below_any _ g A c l 2 _ (by decide) (by decide) hHeld.2.1).mono ?_
  rintro e v4 ⟨y1, hy1, rfl, D4, k4⟩
  (try go_wp2_with fail)
  refine hK.out _ _ (hHeld.call hWg hg1 hg2 hg3 hg5 D4 k4) (fun hH4 => ?_)
  clear hK K D4 k4
  (try simp only [Act.put, List.setIfInBounds_toArray, List.set_cons_zero, List.set_cons_succ])
  refine wpAnyH_ready (rs := [6]) (by kernel_rfl) (by simp) ?_
  refine AllReadyH.cons (o := _) rfl (fun K hK => ?_) AllReadyH.nil
  go_simp
  refine (l01Below_any _ g A c l 60 _ (by decide) (by decide) hH4.2.1).mono ?_
  rintro e v6 ⟨y2, hy2, rfl, D6, k6⟩
  (try go_wp2_with fail)
  refine hK.out _ _ (hH4.call hWg hg1 hg2 hg3 hg5 D6 k6) (fun hH6 => ?_)
  clear hK K D6 k6
  (try simp only [Act.put, List.setIfInBounds_toArray, List.set_cons_zero, List.set_cons_succ])
  refine wpAnyH_ready (rs := [8]) (by kernel_rfl) (by simp) ?_
  refine AllReadyH.cons (o := _) rfl (fun K hK => ?_) AllReadyH.nil
  go_simp
  refine (l01Below_any _ g A c l 4 _ (by decide) (by decide) hH6.2.1).mono ?_
  rintro e v8 ⟨y3, hy3, rfl, D8, k8⟩
  (try go_wp2_with fail)
  refine hK.out _ _ (hH6.call hWg hg1 hg2 hg3 hg5 D8 k8) (fun hH8 => ?_)
  clear hK K D8 k8
  (try simp only [Act.put, List.setIfInBounds_toArray, List.set_cons_zero, List.set_cons_succ])
  refine wpAnyH_take (i := 10) (oi := _) (v := ?v10) rfl (by kernel_rfl) (by kernel_rfl) (by kernel_rfl) (fun _ _ _ h => h) (Or.inl ⟨by first | (go_simp; done) | rfl, ?hy10⟩) hH8 ?rest10
  case hy10 => (intro w9 h9; go_simp; (try with_reducible rfl))
  case rest10 =>
  (try simp only [Act.put, List.setIfInBounds_toArray, List.set_cons_zero, List.set_cons_succ])
  have hqq : w.heap.size < q := by omega
  have hqq2 : w.heap.size < q2 := by omega
  have hq3 : w.heap.size + 1 < q := by omega
  have hq4 : w.heap.size + 1 < q2 := by omega
  refine wpAnyH_ready (rs := [9, 11]) (by decide +kernel) (by simp) ?_
  refine AllReadyH.cons (o := _) rfl (fun K hK => ?_) (AllReadyH.cons (o := _) rfl (fun K hK => ?_) AllReadyH.nil)
  · go_simp
    have G1 := DeedS.ext hH8 (Ext.new (Below.refl _ _) (.cells #[.int .i64 y1, .int .i64 y2, .int .i64 y3] 3))
    refine hK.out _ _ G1 (fun _ => ?_)
    clear hK K
    (try simp only [Act.put, List.setIfInBounds_toArray, List.set_cons_zero, List.set_cons_succ])
    generalize v8.alloc (.cells #[.int .i64 y1, .int .i64 y2, .int .i64 y3] 3) = u1 at G1  ⊢
    refine wpAnyH_ready (rs := [11]) (by decide +kernel) (by simp) ?_
    refine AllReadyH.cons (o := _) rfl (fun K hK => ?_) AllReadyH.nil
    obtain ⟨a0, ha0, hA0⟩ := G1.2.2.2.2.1
    refine wp_store_here 44 _ _ rfl rfl w.heap.size 0 [.string t1, .int .i64 0, .int .i64 (n1 : Int), .string s1, .string s2] rfl rfl (hA0.there 0 5 (by omega)) (by kernel_rfl) (by simp [Value.oneCell']) ?_
    obtain ⟨D1, D2⟩ := DeedS.put1 G1 (Nat.le_refl _) hg1 hqq hqq2 [.string t1, .int .i64 0, .int .i64 (n1 : Int), .string s1, .string s2] rfl
    clear hA0 ha0 a0
    refine hK.out _ _ D1 (fun _ => ?_)
    clear hK K
    (try simp only [Act.put, List.setIfInBounds_toArray, List.set_cons_zero, List.set_cons_succ])
    generalize u1.setCells w.heap.size 0 [.string t1, .int .i64 0, .int .i64 (n1 : Int), .string s1, .string s2] = u2 at D1 D2 ⊢
    refine wpAnyH_ready (rs := [12]) (by decide +kernel) (by simp) ?_
    refine AllReadyH.cons (o := _) rfl (fun K hK => ?_) AllReadyH.nil
    obtain ⟨b0, hb0, hB0⟩ := D1.2.2.2.2.2
    refine wp_store_here 46 _ _ rfl rfl (w.heap.size + 1) 0 [.string who, .string t2, .int .i64 n2] rfl rfl (hB0.there 0 3 (by omega)) (by kernel_rfl) (by simp [Value.oneCell']) ?_
    obtain ⟨F1, F2⟩ := DeedS.put2 D1 (Nat.le_refl _) hg2 hq3 hq4 [.string who, .string t2, .int .i64 n2] rfl
    have D3 := D2.farCells (g' := w.heap.size + 1) (by omega) [.string who, .string t2, .int .i64 n2] 0
    clear hB0 hb0 b0
    refine hK.out _ _ F1 (fun _ => ?_)
    clear hK K
    (try simp only [Act.put, List.setIfInBounds_toArray, List.set_cons_zero, List.set_cons_succ])
    generalize u2.setCells (w.heap.size + 1) 0 [.string who, .string t2, .int .i64 n2] = u3 at F1 F2 D3 ⊢
    refine wpAnyH_ready (rs := [13]) (by decide +kernel) (by simp) ?_
    refine AllReadyH.cons (o := _) rfl (fun K hK => ?_) AllReadyH.nil
    go_simp
    refine hK.out _ _ F1 (fun _ => ?_)
    clear hK K
    (try simp only [Act.put, List.setIfInBounds_toArray, List.set_cons_zero, List.set_cons_succ])
    refine wpAnyH_done (by kernel_rfl) ?_ _
    go_wp2_with fail
    refine ret_deed (s := 2) (p := 3) (q := 4) (u := 5) (t := 44) (t' := 46) rfl rfl rfl D3 F2 Try.underlying44 Try.underlying46 rfl rfl (by kernel_rfl) (by kernel_rfl) rfl ?_
    exact ⟨F1.1, x, t1, n1, s1, s2, who, t2, n2, _, ht1, by omega, by omega, hwho, ht2, by omega, hn3, hn4, rfl⟩
  · obtain ⟨a0, ha0, hA0⟩ := hH8.2.2.2.2.1
    refine wp_store_here 44 _ _ rfl rfl w.heap.size 0 [.string t1, .int .i64 0, .int .i64 (n1 : Int), .string s1, .string s2] rfl rfl (hA0.there 0 5 (by omega)) (by kernel_rfl) (by simp [Value.oneCell']) ?_
    obtain ⟨D1, D2⟩ := DeedS.put1 hH8 (Nat.le_refl _) hg1 hqq hqq2 [.string t1, .int .i64 0, .int .i64 (n1 : Int), .string s1, .string s2] rfl
    clear hA0 ha0 a0
    refine hK.out _ _ D1 (fun _ => ?_)
    clear hK K
    (try simp only [Act.put, List.setIfInBounds_toArray, List.set_cons_zero, List.set_cons_succ])
    generalize v8.setCells w.heap.size 0 [.string t1, .int .i64 0, .int .i64 (n1 : Int), .string s1, .string s2] = u1 at D1 D2 ⊢
    refine wpAnyH_ready (rs := [9, 12]) (by decide +kernel) (by simp) ?_
    refine AllReadyH.cons (o := _) rfl (fun K hK => ?_) (AllReadyH.cons (o := _) rfl (fun K hK => ?_) AllReadyH.nil)
    · go_simp
      have G1 := DeedS.ext D1 (Ext.new (Below.refl _ _) (.cells #[.int .i64 y1, .int .i64 y2, .int .i64 y3] 3))
      replace D2 := D2.alloc (.cells #[.int .i64 y1, .int .i64 y2, .int .i64 y3] 3)
      refine hK.out _ _ G1 (fun _ => ?_)
      clear hK K
      (try simp only [Act.put, List.setIfInBounds_toArray, List.set_cons_zero, List.set_cons_succ])
      generalize u1.alloc (.cells #[.int .i64 y1, .int .i64 y2, .int .i64 y3] 3) = u2 at G1 D2 ⊢
      refine wpAnyH_ready (rs := [12]) (by decide +kernel) (by simp) ?_
      refine AllReadyH.cons (o := _) rfl (fun K hK => ?_) AllReadyH.nil
      obtain ⟨b0, hb0, hB0⟩ := G1.2.2.2.2.2
      refine wp_store_here 46 _ _ rfl rfl (w.heap.size + 1) 0 [.string who, .string t2, .int .i64 n2] rfl rfl (hB0.there 0 3 (by omega)) (by kernel_rfl) (by simp [Value.oneCell']) ?_
      obtain ⟨F1, F2⟩ := DeedS.put2 G1 (Nat.le_refl _) hg2 hq3 hq4 [.string who, .string t2, .int .i64 n2] rfl
      have D3 := D2.farCells (g' := w.heap.size + 1) (by omega) [.string who, .string t2, .int .i64 n2] 0
      clear hB0 hb0 b0
      refine hK.out _ _ F1 (fun _ => ?_)
      clear hK K
      (try simp only [Act.put, List.setIfInBounds_toArray, List.set_cons_zero, List.set_cons_succ])
      generalize u2.setCells (w.heap.size + 1) 0 [.string who, .string t2, .int .i64 n2] = u3 at F1 F2 D3 ⊢
      refine wpAnyH_ready (rs := [13]) (by decide +kernel) (by simp) ?_
      refine AllReadyH.cons (o := _) rfl (fun K hK => ?_) AllReadyH.nil
      go_simp
      refine hK.out _ _ F1 (fun _ => ?_)
      clear hK K
      (try simp only [Act.put, List.setIfInBounds_toArray, List.set_cons_zero, List.set_cons_succ])
      refine wpAnyH_done (by kernel_rfl) ?_ _
      go_wp2_with fail
      refine ret_deed (s := 2) (p := 3) (q := 4) (u := 5) (t := 44) (t' := 46) rfl rfl rfl D3 F2 Try.underlying44 Try.underlying46 rfl rfl (by kernel_rfl) (by kernel_rfl) rfl ?_
      exact ⟨F1.1, x, t1, n1, s1, s2, who, t2, n2, _, ht1, by omega, by omega, hwho, ht2, by omega, hn3, hn4, rfl⟩
    · obtain ⟨b0, hb0, hB0⟩ := D1.2.2.2.2.2
      refine wp_store_here 46 _ _ rfl rfl (w.heap.size + 1) 0 [.string who, .string t2, .int .i64 n2] rfl rfl (hB0.there 0 3 (by omega)) (by kernel_rfl) (by simp [Value.oneCell']) ?_
      obtain ⟨F1, F2⟩ := DeedS.put2 D1 (Nat.le_refl _) hg2 hq3 hq4 [.string who, .string t2, .int .i64 n2] rfl
      have D3 := D2.farCells (g' := w.heap.size + 1) (by omega) [.string who, .string t2, .int .i64 n2] 0
      clear hB0 hb0 b0
      refine hK.out _ _ F1 (fun _ => ?_)
      clear hK K
      (try simp only [Act.put, List.setIfInBounds_toArray, List.set_cons_zero, List.set_cons_succ])
      generalize u1.setCells (w.heap.size + 1) 0 [.string who, .string t2, .int .i64 n2] = u2 at F1 F2 D3 ⊢
      refine wpAnyH_ready (rs := [9]) (by decide +kernel) (by simp) ?_
      refine AllReadyH.cons (o := _) rfl (fun K hK => ?_) AllReadyH.nil
      go_simp
      have G1 := DeedS.ext F1 (Ext.new (Below.refl _ _) (.cells #[.int .i64 y1, .int .i64 y2, .int .i64 y3] 3))
      replace D3 := D3.alloc (.cells #[.int .i64 y1, .int .i64 y2, .int .i64 y3] 3)
      replace F2 := F2.alloc (.cells #[.int .i64 y1, .int .i64 y2, .int .i64 y3] 3)
      refine hK.out _ _ G1 (fun _ => ?_)
      clear hK K
      (try simp only [Act.put, List.setIfInBounds_toArray, List.set_cons_zero, List.set_cons_succ])
      generalize u2.alloc (.cells #[.int .i64 y1, .int .i64 y2, .int .i64 y3] 3) = u3 at G1 D3 F2 ⊢
      refine wpAnyH_ready (rs := [13]) (by decide +kernel) (by simp) ?_
      refine AllReadyH.cons (o := _) rfl (fun K hK => ?_) AllReadyH.nil
      go_simp
      refine hK.out _ _ G1 (fun _ => ?_)
      clear hK K
      (try simp only [Act.put, List.setIfInBounds_toArray, List.set_cons_zero, List.set_cons_succ])
      refine wpAnyH_done (by kernel_rfl) ?_ _
      go_wp2_with fail
      refine ret_deed (s := 2) (p := 3) (q := 4) (u := 5) (t := 44) (t' := 46) rfl rfl rfl D3 F2 Try.underlying44 Try.underlying46 rfl rfl (by kernel_rfl) (by kernel_rfl) rfl ?_
      exact ⟨G1.1, x, t1, n1, s1, s2, who, t2, n2, _, ht1, by omega, by omega, hwho, ht2, by omega, hn3, hn4, rfl⟩
end Go.Proofs.Ytichegndafnjeaa

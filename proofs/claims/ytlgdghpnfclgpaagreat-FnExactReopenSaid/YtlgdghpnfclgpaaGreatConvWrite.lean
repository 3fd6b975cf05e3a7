/-
  The laws' marking: walks. No condition.
-/
import Derived.Test.YtlgdghpnfclgpaaGreatReadRec
import Derived.Test.YtlgdghpnfclgpaaGreatMem
import Derived.Test.YtlgdghpnfclgpaaGreatTypes
import Derived.Test.YtlgdghpnfclgpaaGreatAppNew
import Derived.Test.YtlgdghpnfclgpaaGreatFrm
import Derived.Test.YtlgdghpnfclgpaaGreatGrowA
import Derived.StillTailTactics
namespace Go.Proofs.YtlgdghpnfclgpaaGreat
set_option maxRecDepth 100000
set_option linter.unusedSimpArgs false
open Go.RowKit
set_option linter.unusedVariables false
theorem hI {p : Prop} (h : p) : Hid p := Lib.hid h
theorem OwnS.reads {W w : World} {v : Value} {l : List ByteArray} (h : OwnS W w v l) : ∃ A c, v = .slice A l.length c ∧ Reads w w.heap.size 1 A l.length (svals l) := by
 obtain ⟨A, c, rfl, _⟩ := ownsRow_form h
 exact ⟨A, c, rfl, Reads.of_own h⟩
def decB : Nat → Nat → ByteArray → ByteArray
 | 0, _, t => t
 | f + 1, k, t => if k = 0 then t else decB f (k / 10) (ofInts [48 + (k : Int) % 10] ++ t)
def markB (k : Nat) : ByteArray := if k = 0 then ⟨#[109, 48]⟩ else ⟨#[109]⟩ ++ decB k k ⟨#[]⟩
set_option maxHeartbeats 1000000 in
theorem markText_any (n : Nat) (w : World) (hn : n ≤ 1099511627776) : Calls Tryz.prog 61 #[.int .i64 (n : Int)] w fun e w' => e = .returned (.string (markB n)) ∧ Ext w w' := by
 by_cases h0 : n = 0
 · subst h0
   go_enter Tryz.func61, Tryz.ntmps61
   go_wp2_with fail
   go_ret
   exact ⟨rfl, Below.refl _ _⟩
 have E := hI (show markB n = ⟨#[109]⟩ ++ decB n n ⟨#[]⟩ by rw [markB, if_neg h0])
 go_enter Tryz.func61, Tryz.ntmps61
 go_wp2_with fail
 go_loopw [0, 3] (fun sn st wr => ∃ (k f : Nat) (t : ByteArray), sn = .int .i64 k ∧ st = .string t ∧ k ≤ f ∧ t.size + k ≤ n ∧ Hid (decB f k t = decB n n ⟨#[]⟩) ∧ Ext w wr) (fun sn _ _ => (intOf sn).toNat)
 case atStart => exact ⟨n, n, ⟨#[]⟩, rfl, rfl, Nat.le_refl _, by show 0 + n ≤ n; omega, hI rfl, Below.refl _ _⟩
 case round =>
  obtain ⟨k, f, t, rfl, rfl, hkf, hs, eq, he⟩ := hrel
  by_cases hlt : 0 < k
  · have hconv := conv_bytes [48 + (k : Int) % 10] (by intro x hx; simp only [List.mem_singleton] at hx; subst hx; omega) wr
    simp only [List.length_cons, List.length_nil, Nat.zero_add, List.map_cons, List.map_nil] at hconv
    obtain ⟨d, hd⟩ : ∃ d, d = ofInts [48 + (k : Int) % 10] := ⟨_, rfl⟩
    have hz : d.size = 1 := by rw [hd]; rfl
    rw [← hd] at hconv
    have E1 : Hid (decB (f - 1) (k / 10) (d ++ t) = decB n n ⟨#[]⟩) := hI (by
     rw [← eq.out, hd]
     obtain ⟨g, rfl⟩ : ∃ g, f = g + 1 := ⟨f - 1, by omega⟩
     rw [decB, if_neg (by omega)]; rfl)
    have E2 : (d ++ t).size + k / 10 ≤ n := by rw [ByteArray.size_append]; omega
    have n1 : ¬ 9223372036854775807 < d.size + t.size := by omega
    clear hd
    go_wp2_with fail
    go_roundw
    case rel => exact ⟨k / 10, f - 1, _, by go_num, rfl, by omega, E2, E1, he.new _⟩
    case measure => simp [intOf]; omega
  · have E1 : Hid (t = decB n n ⟨#[]⟩) := hI (by
     rw [← eq.out]
     obtain rfl : k = 0 := by omega
     cases f <;> simp [decB])
    have n1 : ¬ 9223372036854775807 < 1 + t.size := by omega
    go_wp2_with fail
    go_ret
    exact ⟨ret_str (by rw [E.out, ← E1.out]), he⟩
def setAll : Array Value → Nat → List Value → Array Value
 | cs, _, [] => cs
 | cs, o, v :: vs => setAll (cs.setIfInBounds o v) (o + 1) vs
theorem setAll_eq : ∀ (vs : List Value) (o : Nat) (cs : Array Value), o + vs.length ≤ cs.size → setAll cs o vs = (cs.toList.take o ++ vs ++ cs.toList.drop (o + vs.length)).toArray
 | [], o, cs, hs => by simp [setAll]
 | v :: vs, o, cs, hs => by
   simp only [List.length_cons] at hs
   have hl : o < (cs.toList.set o v).length := by simp; omega
   have a : (cs.toList.set o v).take (o + 1) = cs.toList.take o ++ [v] := by
    rw [List.take_succ_eq_append_getElem hl, List.take_set_of_le (Nat.le_refl _), List.getElem_set_self]
   have b : (cs.toList.set o v).drop (o + 1 + vs.length) = cs.toList.drop (o + 1 + vs.length) := List.drop_set_of_lt (by omega)
   rw [setAll, setAll_eq vs (o + 1) _ (by simp; omega), Array.toList_setIfInBounds, a, b, show o + (v :: vs).length = o + 1 + vs.length by simp; omega]
   simp
def rowAt {α : Type} (f : α → List Value) (size : Nat) (l : List α) (cs : Array Value) (k : Nat) : Array Value := ((l.take k).flatMap f ++ cs.toList.drop (k * size)).toArray
section
variable {α : Type} {f : α → List Value} {size : Nat} {l : List α} {cs : Array Value} {k : Nat}
theorem rowAt_zero : rowAt f size l cs 0 = cs := by simp [rowAt]
theorem rowAt_size (hf : ∀ a, (f a).length = size) (hZ : l.length * size ≤ cs.size) (hk : k ≤ l.length) : (rowAt f size l cs k).size = cs.size := by
 have e2 : k * size ≤ l.length * size := Nat.mul_le_mul_right _ hk
 simp only [rowAt, List.size_toArray, List.length_append, flat_len f size hf, List.length_take, List.length_drop, Array.length_toList]
 rw [Nat.min_eq_left hk]
 omega
theorem rowAt_step (hf : ∀ a, (f a).length = size) (hZ : l.length * size ≤ cs.size) (hk : k < l.length) : setAll (rowAt f size l cs k) (k * size) (f l[k]) = rowAt f size l cs (k + 1) := by
 have e2 : (k + 1) * size ≤ l.length * size := Nat.mul_le_mul_right _ hk
 have e3 := e2
 rw [Nat.succ_mul] at e2
 have hl1 : ((l.take k).flatMap f).length = k * size := by rw [flat_len f size hf, List.length_take, Nat.min_eq_left (by omega)]
 rw [setAll_eq _ _ _ (by rw [rowAt_size hf hZ (by omega), hf]; omega)]
 have e1 : (l.take (k + 1)).flatMap f = (l.take k).flatMap f ++ f l[k] := by rw [List.take_succ_eq_append_getElem hk, List.flatMap_append]; simp
 unfold rowAt
 rw [e1]
 generalize (l.take k).flatMap f = X at hl1
 have q1 : (X ++ cs.toList.drop (k * size)).take (k * size) = X := by rw [List.take_append_of_le_length (by omega), List.take_of_length_le (by omega)]
 have q2 : (X ++ cs.toList.drop (k * size)).drop (k * size + size) = cs.toList.drop ((k + 1) * size) := by
  rw [List.drop_append, List.drop_eq_nil_of_le (by omega), List.nil_append, List.drop_drop, hl1, show k * size + (k * size + size - k * size) = (k + 1) * size by rw [Nat.succ_mul]; omega]
 simp only [hf, q1, q2]
theorem rowAt_reads (hf : ∀ a, (f a).length = size) {w : World} {g t : Nat} (h : Blk w g t (rowAt f size l cs l.length)) : ReadsL w w.heap.size f size (some ⟨g, 0, none⟩) l := by
 refine ⟨flat_len f size hf l, fun _ => ⟨g, 0, rfl, h.lt, fun j u hu => ?_⟩⟩
 rw [Nat.zero_add, h.cell]
 have hj : j < (l.flatMap f).length := (List.getElem?_eq_some_iff.1 hu).1
 simp only [rowAt, List.take_length, List.getElem?_toArray]
 rw [List.getElem?_append_left hj]
 exact hu
end
theorem Blk.has {w : World} {g t : Nat} {cs : Array Value} (h : Blk w g t cs) {i : Nat} (hi : i < cs.size) : ∃ v, w.cell? ⟨g, i, none⟩ = some v := ⟨_, by rw [h.cell]; exact Array.getElem?_eq_getElem hi⟩
theorem markText_int (x : Int) (n : Nat) (hx : x = (n : Int)) (w : World) (hn : n ≤ 1099511627776) : Calls Tryz.prog 61 #[.int .i64 x] w fun e w' => e = .returned (.string (markB n)) ∧ Ext w w' := by
 subst hx; exact markText_any n w hn
def EntryD.mk_ (k : Nat) : EntryD := ⟨markB k, ((k + 1 : Nat) : Int), ((k + 2 : Nat) : Int), markB (k + 3), markB (k + 4)⟩
def EntryD.mkL (k n : Nat) : List EntryD := (List.range n).map (fun i => EntryD.mk_ (k + i * 5))
theorem EntryD.mkL_len (k n : Nat) : (EntryD.mkL k n).length = n := by simp [EntryD.mkL]
theorem EntryD.mkL_at (k n i : Nat) (h : i < (EntryD.mkL k n).length) : (EntryD.mkL k n)[i] = EntryD.mk_ (k + i * 5) := by simp [EntryD.mkL]
set_option maxHeartbeats 4000000 in
theorem markEntryS_any (g n c k : Nat) (cs : Array Value) (w : World) (hB : Blk w g 46 cs) (hn : n * 5 ≤ cs.size) (hl : n ≤ 1048576) (hk : k ≤ 1099511627) :
 Calls Tryz.prog 116 #[.slice (some ⟨g, 0, none⟩) n c, .int .i64 (k : Int)] w fun e w' => e = .returned (.int .i64 ((k + n * 5 : Nat) : Int)) ∧ Blk w' g 46 (rowAt EntryD.cells 5 (EntryD.mkL k n) cs n) ∧ ExtBut g w w' := by
 have Hn := hI hn
 have Hs := hI (fun j (hj : j ≤ n) => rowAt_size (k := j) EntryD.cells_length (l := EntryD.mkL k n) (cs := cs) (by rw [EntryD.mkL_len]; exact hn) (by rw [EntryD.mkL_len]; exact hj))
 have Hst := hI (fun j (hj : j < n) => rowAt_step (k := j) EntryD.cells_length (l := EntryD.mkL k n) (cs := cs) (by rw [EntryD.mkL_len]; exact hn) (by rw [EntryD.mkL_len]; exact hj))
 clear hn
 have B0 := hI (show Blk w g 46 (rowAt EntryD.cells 5 (EntryD.mkL k n) cs 0) by rw [rowAt_zero]; exact hB)
 clear hB
 go_enter Tryz.func116, Tryz.ntmps116
 go_wp2_with fail
 go_loopw [1, 5] (fun q i wr => ∃ (j : Nat), j ≤ n ∧ i = .int .i64 j ∧ q = .int .i64 ((k + j * 5 : Nat) : Int) ∧ Blk wr g 46 (rowAt EntryD.cells 5 (EntryD.mkL k n) cs j) ∧ ExtBut g w wr) (fun _ i _ => n - (intOf i).toNat)
 case atStart => exact ⟨0, Nat.zero_le _, rfl, by simp, B0.out, ExtBut.refl g w⟩
 case round =>
  clear B0
  obtain ⟨j, hj, rfl, rfl, hb, hx⟩ := hrel
  by_cases hlt : j < n
  case neg =>
   obtain rfl : j = n := by omega
   go_wp2_with fail
   go_ret
   exact ⟨rfl, hb, hx⟩
  have hz := Hs.out j hj
  have hn0 : j * 5 + 5 ≤ cs.size := by have := Hn.out; have := Nat.mul_le_mul_right 5 (show j + 1 ≤ n from hlt); omega
  have hkj : k + j * 5 ≤ 1099511627700 := by have := Nat.mul_le_mul_right 5 hj; omega
  generalize hM : rowAt EntryD.cells 5 (EntryD.mkL k n) cs j = M at *
  have HM := hI hM
  clear hM
  have q0 : (0 : Int) ≤ ((k + j * 5 : Nat) : Int) := by omega
  have q1 : ((k + j * 5 : Nat) : Int) ≤ 1099511627700 := by omega
  generalize hQ : k + j * 5 = Q at *
  have HQ := hI hQ
  clear hQ
  have hf := hb.frozen
  go_wp2_with fail
  refine (markText_int _ (Q + 0) (by omega) _ (by omega)).mono ?_
  rintro e w0 ⟨rfl, hx0⟩
  have hb0 := hb.ext hx0
  have hy0 := hx.next (ExtBut.of_ext hx0)
  clear hx0 hf 
  clear hb hx
  have hx := hy0; clear hy0
  obtain ⟨v0, z0⟩ := Blk.has hb0 (i := j * 5) (by (try simp only [Array.size_setIfInBounds]); rw [hz]; omega)
  have hf := hb0.frozen
  obtain ⟨v1, z1⟩ := Blk.has hb0 (i := j * 5 + 1) (by (try simp only [Array.size_setIfInBounds]); rw [hz]; omega)
  obtain ⟨v2, z2⟩ := Blk.has hb0 (i := j * 5 + 2) (by (try simp only [Array.size_setIfInBounds]); rw [hz]; omega)
  go_wp2_with fail
  refine (markText_int _ (Q + 3) (by omega) _ (by omega)).mono ?_
  rintro e w3 ⟨rfl, hx3⟩
  have hb3 := (((hb0.set_ _ _).set_ _ _).set_ _ _).ext hx3
  have hy3 := (((hx.set_ _ _).set_ _ _).set_ _ _).next (ExtBut.of_ext hx3)
  clear hx3 hf z0 z1 z2
  clear hb0 hx
  have hx := hy3; clear hy3
  obtain ⟨v3, z3⟩ := Blk.has hb3 (i := j * 5 + 3) (by (try simp only [Array.size_setIfInBounds]); rw [hz]; omega)
  have hf := hb3.frozen
  go_wp2_with fail
  refine (markText_int _ (Q + 4) (by omega) _ (by omega)).mono ?_
  rintro e w4 ⟨rfl, hx4⟩
  have hb4 := (hb3.set_ _ _).ext hx4
  have hy4 := (hx.set_ _ _).next (ExtBut.of_ext hx4)
  clear hx4 hf z3
  clear hb3 hx
  have hx := hy4; clear hy4
  obtain ⟨v4, z4⟩ := Blk.has hb4 (i := j * 5 + 4) (by (try simp only [Array.size_setIfInBounds]); rw [hz]; omega)
  have hf := hb4.frozen
  have hfin := (hb4.set_ (j * 5 + 4) (.string (markB (Q + 4))))
  have HX := hI (hx.set_ (j * 5 + 4) (.string (markB (Q + 4))))
  have hset := Hst.out j hlt
  rw [HM.out, EntryD.mkL_at, HQ.out] at hset
  have HB : Hid (Blk _ g 46 (rowAt EntryD.cells 5 (EntryD.mkL k n) cs (j + 1))) := hI (by rw [← hset]; exact hfin)
  clear hset hfin hb4 hx hz
  go_wp2_with fail
  go_roundw
  case rel => exact ⟨j + 1, by omega, by go_num, congrArg (Value.int .i64) (by have := HQ.out; omega), HB.out, HX.out⟩
  case measure => simp [intOf]; omega
set_option maxHeartbeats 4000000 in
theorem heldEntryS_any (A : Option Addr) (n c k : Nat) (w : World) (hr : ReadsL w w.heap.size EntryD.cells 5 A (EntryD.mkL k n)) (hl : n ≤ 1048576) (hk : k ≤ 1099511627) :
 Calls Tryz.prog 148 #[.slice A n c, .int .i64 (k : Int)] w fun e w' => e = .returned (.int .i64 ((k + n * 5 : Nat) : Int)) ∧ Ext w w' := by
 have Hr := hI hr; clear hr
 go_enter Tryz.func148, Tryz.ntmps148
 go_wp2_with fail
 go_loopw [1, 5] (fun q i wr => ∃ (j : Nat), j ≤ n ∧ i = .int .i64 j ∧ q = .int .i64 ((k + j * 5 : Nat) : Int) ∧ Ext w wr) (fun _ i _ => n - (intOf i).toNat)
 case atStart => exact ⟨0, Nat.zero_le _, rfl, by simp, Below.refl _ _⟩
 case round =>
  obtain ⟨j, hj, rfl, rfl, he⟩ := hrel
  by_cases hlt : j < n
  case neg =>
   obtain rfl : j = n := by omega
   go_wp2_with fail
   go_ret
   exact ⟨rfl, he⟩
  have hln := EntryD.mkL_len k n
  obtain ⟨b, off, rfl, hb, hc⟩ := Reads.at_ (Hr.out.ext he) (k := j) (by rw [hln]; exact hlt)
  have hdl : (EntryD.mkL k n)[j]? = some (EntryD.mk_ (k + j * 5)) := by rw [List.getElem?_eq_getElem (by rw [hln]; exact hlt), EntryD.mkL_at]
  have hkj : k + j * 5 ≤ 1099511627700 := by have := Nat.mul_le_mul_right 5 hj; omega
  have q0 : (0 : Int) ≤ ((k + j * 5 : Nat) : Int) := by omega
  have q1 : ((k + j * 5 : Nat) : Int) ≤ 1099511627700 := by omega
  generalize hQ : k + j * 5 = Q at *
  have HQ := hI hQ
  clear hQ hln
  have C0 : ∀ w2, Ext wr w2 → w2.cell? ⟨b, off + j * 5, none⟩ = some (.string (markB (Q + 0))) := fun w2 h2 => (h2.cell (p := ⟨b, off + j * 5, none⟩) hb).trans (hc 0 _ (flat_at _ 5 EntryD.cells_length _ j 0 _ hdl (by omega)))
  have C1 : ∀ w2, Ext wr w2 → w2.cell? ⟨b, off + j * 5 + 1, none⟩ = some (.int .i64 ((Q : Int) + 1)) := fun w2 h2 => (h2.cell (p := ⟨b, off + j * 5 + 1, none⟩) hb).trans (hc 1 _ (flat_at _ 5 EntryD.cells_length _ j 1 _ hdl (by omega)))
  have C2 : ∀ w2, Ext wr w2 → w2.cell? ⟨b, off + j * 5 + 2, none⟩ = some (.int .i64 ((Q : Int) + 2)) := fun w2 h2 => (h2.cell (p := ⟨b, off + j * 5 + 2, none⟩) hb).trans (hc 2 _ (flat_at _ 5 EntryD.cells_length _ j 2 _ hdl (by omega)))
  have C3 : ∀ w2, Ext wr w2 → w2.cell? ⟨b, off + j * 5 + 3, none⟩ = some (.string (markB (Q + 3))) := fun w2 h2 => (h2.cell (p := ⟨b, off + j * 5 + 3, none⟩) hb).trans (hc 3 _ (flat_at _ 5 EntryD.cells_length _ j 3 _ hdl (by omega)))
  have C4 : ∀ w2, Ext wr w2 → w2.cell? ⟨b, off + j * 5 + 4, none⟩ = some (.string (markB (Q + 4))) := fun w2 h2 => (h2.cell (p := ⟨b, off + j * 5 + 4, none⟩) hb).trans (hc 4 _ (flat_at _ 5 EntryD.cells_length _ j 4 _ hdl (by omega)))
  obtain ⟨s0, hs0⟩ : ∃ s, s = markB (Q + 0) := ⟨_, rfl⟩
  rw [← hs0] at C0
  have T0 := hI hs0; clear hs0
  obtain ⟨s3, hs3⟩ : ∃ s, s = markB (Q + 3) := ⟨_, rfl⟩
  rw [← hs3] at C3
  have T3 := hI hs3; clear hs3
  obtain ⟨s4, hs4⟩ : ∃ s, s = markB (Q + 4) := ⟨_, rfl⟩
  rw [← hs4] at C4
  have T4 := hI hs4; clear hs4
  have D0 := hI C0; clear C0
  have D1 := hI C1; clear C1
  have D2 := hI C2; clear C2
  have D3 := hI C3; clear C3
  have D4 := hI C4; clear C4
  clear hc hdl
  have E0 := Below.refl wr.heap.size wr
  have H0 := hI (he.next (w2 := wr) E0)
  have d0 := D0.out _ E0
  have d1 := D1.out _ E0
  have d2 := D2.out _ E0
  have d3 := D3.out _ E0
  have d4 := D4.out _ E0
  go_wp2_with fail
  go_region_held3 (fun w' => w'.cell? ⟨b, off + j * 5, none⟩ = some (.string s0) ∧ Ext wr w')
   (first | (exact ⟨D0.out _ (Below.drew E0), Below.drew E0⟩) | (go_split_ands; have y1 := Ext.next (by assumption) h1; exact ⟨D0.out _ y1, y1⟩))
   (first | (go_at_call 61; refine (markText_int _ (Q + 0) (by omega) _ (by omega)).mono ?_; rintro e w' ⟨he1, h1⟩; rw [← T0.out] at he1; subst he1))
  all_goals
   go_split_ands
   have e0 : Ext wr w' := by assumption
   clear d0 d1 d2 d3 d4
   have d0 := D0.out _ e0
   have d1 := D1.out _ e0
   have d2 := D2.out _ e0
   have d3 := D3.out _ e0
   have d4 := D4.out _ e0
   go_wp2_with fail
   go_region_held3 (fun w' => w'.cell? ⟨b, off + j * 5 + 3, none⟩ = some (.string s3) ∧ Ext wr w')
    (first | (exact ⟨D3.out _ (Below.drew e0), Below.drew e0⟩) | (go_split_ands; have y1 := Ext.next (by assumption) h1; exact ⟨D3.out _ y1, y1⟩))
    (first | (go_at_call 61; refine (markText_int _ (Q + 3) (by omega) _ (by omega)).mono ?_; rintro e w' ⟨he1, h1⟩; rw [← T3.out] at he1; subst he1))
   all_goals
    go_split_ands
    have e3 : Ext wr w' := by assumption
    clear d0 d1 d2 d3 d4
    have d0 := D0.out _ e3
    have d1 := D1.out _ e3
    have d2 := D2.out _ e3
    have d3 := D3.out _ e3
    have d4 := D4.out _ e3
    go_wp2_with fail
    go_region_held3 (fun w' => w'.cell? ⟨b, off + j * 5 + 4, none⟩ = some (.string s4) ∧ Ext wr w')
     (first | (exact ⟨D4.out _ (Below.drew e3), Below.drew e3⟩) | (go_split_ands; have y1 := Ext.next (by assumption) h1; exact ⟨D4.out _ y1, y1⟩))
     (first | (go_at_call 61; refine (markText_int _ (Q + 4) (by omega) _ (by omega)).mono ?_; rintro e w' ⟨he1, h1⟩; rw [← T4.out] at he1; subst he1))
    all_goals
     go_split_ands
     have e4 : Ext wr w' := by assumption
     clear d0 d1 d2 d3 d4
     have d0 := D0.out _ e4
     have d1 := D1.out _ e4
     have d2 := D2.out _ e4
     have d3 := D3.out _ e4
     have d4 := D4.out _ e4
     have H1 := hI (H0.out.next e4)
     go_wp2_with fail
     go_roundw
     case rel => exact ⟨j + 1, by omega, by go_num, congrArg (Value.int .i64) (by have := HQ.out; omega), H1.out⟩
     case measure => simp [intOf]; omega
theorem markEntryS_nil (k : Int) (w : World) : Calls Tryz.prog 116 #[.slice none 0 0, .int .i64 k] w fun e w' => e = .returned (.int .i64 k) ∧ Ext w w' := by
 go_enter Tryz.func116, Tryz.ntmps116
 go_wp2_with fail
 refine wp_loop_rounds 1 ?_
 rw [rounds_succ]
 go_wp2_with fail
 go_ret
 exact ⟨rfl, Below.refl _ _⟩
def ReceiptD.mk_ (k : Nat) : ReceiptD := ⟨markB k, markB (k + 1), ((k + 2 : Nat) : Int)⟩
def ReceiptD.mkL (k n : Nat) : List ReceiptD := (List.range n).map (fun i => ReceiptD.mk_ (k + i * 3))
theorem ReceiptD.mkL_len (k n : Nat) : (ReceiptD.mkL k n).length = n := by simp [ReceiptD.mkL]
theorem ReceiptD.mkL_at (k n i : Nat) (h : i < (ReceiptD.mkL k n).length) : (ReceiptD.mkL k n)[i] = ReceiptD.mk_ (k + i * 3) := by simp [ReceiptD.mkL]
set_option maxHeartbeats 4000000 in
theorem markReceiptS_any (g n c k : Nat) (cs : Array Value) (w : World) (hB : Blk w g 77 cs) (hn : n * 3 ≤ cs.size) (hl : n ≤ 1048576) (hk : k ≤ 1099511627) :
 Calls Tryz.prog 58 #[.slice (some ⟨g, 0, none⟩) n c, .int .i64 (k : Int)] w fun e w' => e = .returned (.int .i64 ((k + n * 3 : Nat) : Int)) ∧ Blk w' g 77 (rowAt ReceiptD.cells 3 (ReceiptD.mkL k n) cs n) ∧ ExtBut g w w' := by
 have Hn := hI hn
 have Hs := hI (fun j (hj : j ≤ n) => rowAt_size (k := j) ReceiptD.cells_length (l := ReceiptD.mkL k n) (cs := cs) (by rw [ReceiptD.mkL_len]; exact hn) (by rw [ReceiptD.mkL_len]; exact hj))
 have Hst := hI (fun j (hj : j < n) => rowAt_step (k := j) ReceiptD.cells_length (l := ReceiptD.mkL k n) (cs := cs) (by rw [ReceiptD.mkL_len]; exact hn) (by rw [ReceiptD.mkL_len]; exact hj))
 clear hn
 have B0 := hI (show Blk w g 77 (rowAt ReceiptD.cells 3 (ReceiptD.mkL k n) cs 0) by rw [rowAt_zero]; exact hB)
 clear hB
 go_enter Tryz.func58, Tryz.ntmps58
 go_wp2_with fail
 go_loopw [1, 5] (fun q i wr => ∃ (j : Nat), j ≤ n ∧ i = .int .i64 j ∧ q = .int .i64 ((k + j * 3 : Nat) : Int) ∧ Blk wr g 77 (rowAt ReceiptD.cells 3 (ReceiptD.mkL k n) cs j) ∧ ExtBut g w wr) (fun _ i _ => n - (intOf i).toNat)
 case atStart => exact ⟨0, Nat.zero_le _, rfl, by simp, B0.out, ExtBut.refl g w⟩
 case round =>
  clear B0
  obtain ⟨j, hj, rfl, rfl, hb, hx⟩ := hrel
  by_cases hlt : j < n
  case neg =>
   obtain rfl : j = n := by omega
   go_wp2_with fail
   go_ret
   exact ⟨rfl, hb, hx⟩
  have hz := Hs.out j hj
  have hn0 : j * 3 + 3 ≤ cs.size := by have := Hn.out; have := Nat.mul_le_mul_right 3 (show j + 1 ≤ n from hlt); omega
  have hkj : k + j * 3 ≤ 1099511627700 := by have := Nat.mul_le_mul_right 3 hj; omega
  generalize hM : rowAt ReceiptD.cells 3 (ReceiptD.mkL k n) cs j = M at *
  have HM := hI hM
  clear hM
  have q0 : (0 : Int) ≤ ((k + j * 3 : Nat) : Int) := by omega
  have q1 : ((k + j * 3 : Nat) : Int) ≤ 1099511627700 := by omega
  generalize hQ : k + j * 3 = Q at *
  have HQ := hI hQ
  clear hQ
  have hf := hb.frozen
  go_wp2_with fail
  refine (markText_int _ (Q + 0) (by omega) _ (by omega)).mono ?_
  rintro e w0 ⟨rfl, hx0⟩
  have hb0 := hb.ext hx0
  have hy0 := hx.next (ExtBut.of_ext hx0)
  clear hx0 hf 
  clear hb hx
  have hx := hy0; clear hy0
  obtain ⟨v0, z0⟩ := Blk.has hb0 (i := j * 3) (by (try simp only [Array.size_setIfInBounds]); rw [hz]; omega)
  have hf := hb0.frozen
  go_wp2_with fail
  refine (markText_int _ (Q + 1) (by omega) _ (by omega)).mono ?_
  rintro e w1 ⟨rfl, hx1⟩
  have hb1 := (hb0.set_ _ _).ext hx1
  have hy1 := (hx.set_ _ _).next (ExtBut.of_ext hx1)
  clear hx1 hf z0
  clear hb0 hx
  have hx := hy1; clear hy1
  obtain ⟨v1, z1⟩ := Blk.has hb1 (i := j * 3 + 1) (by (try simp only [Array.size_setIfInBounds]); rw [hz]; omega)
  have hf := hb1.frozen
  obtain ⟨v2, z2⟩ := Blk.has hb1 (i := j * 3 + 2) (by (try simp only [Array.size_setIfInBounds]); rw [hz]; omega)
  have hfin := ((hb1.set_ (j * 3 + 1) (.string (markB (Q + 1)))).set_ (j * 3 + 2) (.int .i64 ((Q : Int) + 2)))
  have HX := hI ((hx.set_ (j * 3 + 1) (.string (markB (Q + 1)))).set_ (j * 3 + 2) (.int .i64 ((Q : Int) + 2)))
  have hset := Hst.out j hlt
  rw [HM.out, ReceiptD.mkL_at, HQ.out] at hset
  have HB : Hid (Blk _ g 77 (rowAt ReceiptD.cells 3 (ReceiptD.mkL k n) cs (j + 1))) := hI (by rw [← hset]; exact hfin)
  clear hset hfin hb1 hx hz
  go_wp2_with fail
  go_roundw
  case rel => exact ⟨j + 1, by omega, by go_num, congrArg (Value.int .i64) (by have := HQ.out; omega), HB.out, HX.out⟩
  case measure => simp [intOf]; omega
set_option maxHeartbeats 4000000 in
theorem heldReceiptS_any (A : Option Addr) (n c k : Nat) (w : World) (hr : ReadsL w w.heap.size ReceiptD.cells 3 A (ReceiptD.mkL k n)) (hl : n ≤ 1048576) (hk : k ≤ 1099511627) :
 Calls Tryz.prog 85 #[.slice A n c, .int .i64 (k : Int)] w fun e w' => e = .returned (.int .i64 ((k + n * 3 : Nat) : Int)) ∧ Ext w w' := by
 have Hr := hI hr; clear hr
 go_enter Tryz.func85, Tryz.ntmps85
 go_wp2_with fail
 go_loopw [1, 5] (fun q i wr => ∃ (j : Nat), j ≤ n ∧ i = .int .i64 j ∧ q = .int .i64 ((k + j * 3 : Nat) : Int) ∧ Ext w wr) (fun _ i _ => n - (intOf i).toNat)
 case atStart => exact ⟨0, Nat.zero_le _, rfl, by simp, Below.refl _ _⟩
 case round =>
  obtain ⟨j, hj, rfl, rfl, he⟩ := hrel
  by_cases hlt : j < n
  case neg =>
   obtain rfl : j = n := by omega
   go_wp2_with fail
   go_ret
   exact ⟨rfl, he⟩
  have hln := ReceiptD.mkL_len k n
  obtain ⟨b, off, rfl, hb, hc⟩ := Reads.at_ (Hr.out.ext he) (k := j) (by rw [hln]; exact hlt)
  have hdl : (ReceiptD.mkL k n)[j]? = some (ReceiptD.mk_ (k + j * 3)) := by rw [List.getElem?_eq_getElem (by rw [hln]; exact hlt), ReceiptD.mkL_at]
  have hkj : k + j * 3 ≤ 1099511627700 := by have := Nat.mul_le_mul_right 3 hj; omega
  have q0 : (0 : Int) ≤ ((k + j * 3 : Nat) : Int) := by omega
  have q1 : ((k + j * 3 : Nat) : Int) ≤ 1099511627700 := by omega
  generalize hQ : k + j * 3 = Q at *
  have HQ := hI hQ
  clear hQ hln
  have C0 : ∀ w2, Ext wr w2 → w2.cell? ⟨b, off + j * 3, none⟩ = some (.string (markB (Q + 0))) := fun w2 h2 => (h2.cell (p := ⟨b, off + j * 3, none⟩) hb).trans (hc 0 _ (flat_at _ 3 ReceiptD.cells_length _ j 0 _ hdl (by omega)))
  have C1 : ∀ w2, Ext wr w2 → w2.cell? ⟨b, off + j * 3 + 1, none⟩ = some (.string (markB (Q + 1))) := fun w2 h2 => (h2.cell (p := ⟨b, off + j * 3 + 1, none⟩) hb).trans (hc 1 _ (flat_at _ 3 ReceiptD.cells_length _ j 1 _ hdl (by omega)))
  have C2 : ∀ w2, Ext wr w2 → w2.cell? ⟨b, off + j * 3 + 2, none⟩ = some (.int .i64 ((Q : Int) + 2)) := fun w2 h2 => (h2.cell (p := ⟨b, off + j * 3 + 2, none⟩) hb).trans (hc 2 _ (flat_at _ 3 ReceiptD.cells_length _ j 2 _ hdl (by omega)))
  obtain ⟨s0, hs0⟩ : ∃ s, s = markB (Q + 0) := ⟨_, rfl⟩
  rw [← hs0] at C0
  have T0 := hI hs0; clear hs0
  obtain ⟨s1, hs1⟩ : ∃ s, s = markB (Q + 1) := ⟨_, rfl⟩
  rw [← hs1] at C1
  have T1 := hI hs1; clear hs1
  have D0 := hI C0; clear C0
  have D1 := hI C1; clear C1
  have D2 := hI C2; clear C2
  clear hc hdl
  have E0 := Below.refl wr.heap.size wr
  have H0 := hI (he.next (w2 := wr) E0)
  have d0 := D0.out _ E0
  have d1 := D1.out _ E0
  have d2 := D2.out _ E0
  go_wp2_with fail
  go_region_held3 (fun w' => w'.cell? ⟨b, off + j * 3, none⟩ = some (.string s0) ∧ Ext wr w')
   (first | (exact ⟨D0.out _ (Below.drew E0), Below.drew E0⟩) | (go_split_ands; have y1 := Ext.next (by assumption) h1; exact ⟨D0.out _ y1, y1⟩))
   (first | (go_at_call 61; refine (markText_int _ (Q + 0) (by omega) _ (by omega)).mono ?_; rintro e w' ⟨he1, h1⟩; rw [← T0.out] at he1; subst he1))
  all_goals
   go_split_ands
   have e0 : Ext wr w' := by assumption
   clear d0 d1 d2
   have d0 := D0.out _ e0
   have d1 := D1.out _ e0
   have d2 := D2.out _ e0
   go_wp2_with fail
   go_region_held3 (fun w' => w'.cell? ⟨b, off + j * 3 + 1, none⟩ = some (.string s1) ∧ Ext wr w')
    (first | (exact ⟨D1.out _ (Below.drew e0), Below.drew e0⟩) | (go_split_ands; have y1 := Ext.next (by assumption) h1; exact ⟨D1.out _ y1, y1⟩))
    (first | (go_at_call 61; refine (markText_int _ (Q + 1) (by omega) _ (by omega)).mono ?_; rintro e w' ⟨he1, h1⟩; rw [← T1.out] at he1; subst he1))
   all_goals
    go_split_ands
    have e1 : Ext wr w' := by assumption
    clear d0 d1 d2
    have d0 := D0.out _ e1
    have d1 := D1.out _ e1
    have d2 := D2.out _ e1
    have H1 := hI (H0.out.next e1)
    go_wp2_with fail
    go_roundw
    case rel => exact ⟨j + 1, by omega, by go_num, congrArg (Value.int .i64) (by have := HQ.out; omega), H1.out⟩
    case measure => simp [intOf]; omega
theorem markReceiptS_nil (k : Int) (w : World) : Calls Tryz.prog 58 #[.slice none 0 0, .int .i64 k] w fun e w' => e = .returned (.int .i64 k) ∧ Ext w w' := by
 go_enter Tryz.func58, Tryz.ntmps58
 go_wp2_with fail
 refine wp_loop_rounds 1 ?_
 rw [rounds_succ]
 go_wp2_with fail
 go_ret
 exact ⟨rfl, Below.refl _ _⟩
def HeadD.mk_ (k : Nat) : HeadD := ⟨(k : Int), ((k + 1 : Nat) : Int), markB (k + 2), ((k + 3 : Nat) : Int), markB (k + 4)⟩
def HeadD.mkL (k n : Nat) : List HeadD := (List.range n).map (fun i => HeadD.mk_ (k + i * 5))
theorem HeadD.mkL_len (k n : Nat) : (HeadD.mkL k n).length = n := by simp [HeadD.mkL]
theorem HeadD.mkL_at (k n i : Nat) (h : i < (HeadD.mkL k n).length) : (HeadD.mkL k n)[i] = HeadD.mk_ (k + i * 5) := by simp [HeadD.mkL]
set_option maxHeartbeats 4000000 in
theorem markHeadS_any (g n c k : Nat) (cs : Array Value) (w : World) (hB : Blk w g 55 cs) (hn : n * 5 ≤ cs.size) (hl : n ≤ 1048576) (hk : k ≤ 1099511627) :
 Calls Tryz.prog 59 #[.slice (some ⟨g, 0, none⟩) n c, .int .i64 (k : Int)] w fun e w' => e = .returned (.int .i64 ((k + n * 5 : Nat) : Int)) ∧ Blk w' g 55 (rowAt HeadD.cells 5 (HeadD.mkL k n) cs n) ∧ ExtBut g w w' := by
 have Hn := hI hn
 have Hs := hI (fun j (hj : j ≤ n) => rowAt_size (k := j) HeadD.cells_length (l := HeadD.mkL k n) (cs := cs) (by rw [HeadD.mkL_len]; exact hn) (by rw [HeadD.mkL_len]; exact hj))
 have Hst := hI (fun j (hj : j < n) => rowAt_step (k := j) HeadD.cells_length (l := HeadD.mkL k n) (cs := cs) (by rw [HeadD.mkL_len]; exact hn) (by rw [HeadD.mkL_len]; exact hj))
 clear hn
 have B0 := hI (show Blk w g 55 (rowAt HeadD.cells 5 (HeadD.mkL k n) cs 0) by rw [rowAt_zero]; exact hB)
 clear hB
 go_enter Tryz.func59, Tryz.ntmps59
 go_wp2_with fail
 go_loopw [1, 5] (fun q i wr => ∃ (j : Nat), j ≤ n ∧ i = .int .i64 j ∧ q = .int .i64 ((k + j * 5 : Nat) : Int) ∧ Blk wr g 55 (rowAt HeadD.cells 5 (HeadD.mkL k n) cs j) ∧ ExtBut g w wr) (fun _ i _ => n - (intOf i).toNat)
 case atStart => exact ⟨0, Nat.zero_le _, rfl, by simp, B0.out, ExtBut.refl g w⟩
 case round =>
  clear B0
  obtain ⟨j, hj, rfl, rfl, hb, hx⟩ := hrel
  by_cases hlt : j < n
  case neg =>
   obtain rfl : j = n := by omega
   go_wp2_with fail
   go_ret
   exact ⟨rfl, hb, hx⟩
  have hz := Hs.out j hj
  have hn0 : j * 5 + 5 ≤ cs.size := by have := Hn.out; have := Nat.mul_le_mul_right 5 (show j + 1 ≤ n from hlt); omega
  have hkj : k + j * 5 ≤ 1099511627700 := by have := Nat.mul_le_mul_right 5 hj; omega
  generalize hM : rowAt HeadD.cells 5 (HeadD.mkL k n) cs j = M at *
  have HM := hI hM
  clear hM
  have q0 : (0 : Int) ≤ ((k + j * 5 : Nat) : Int) := by omega
  have q1 : ((k + j * 5 : Nat) : Int) ≤ 1099511627700 := by omega
  generalize hQ : k + j * 5 = Q at *
  have HQ := hI hQ
  clear hQ
  obtain ⟨v0, z0⟩ := Blk.has hb (i := j * 5) (by rw [hz]; omega)
  obtain ⟨v1, z1⟩ := Blk.has hb (i := j * 5 + 1) (by rw [hz]; omega)
  have hf := hb.frozen
  go_wp2_with fail
  refine (markText_int _ (Q + 2) (by omega) _ (by omega)).mono ?_
  rintro e w2 ⟨rfl, hx2⟩
  have hb2 := ((hb.set_ _ _).set_ _ _).ext hx2
  have hy2 := ((hx.set_ _ _).set_ _ _).next (ExtBut.of_ext hx2)
  clear hx2 hf z0 z1
  clear hb hx
  have hx := hy2; clear hy2
  obtain ⟨v2, z2⟩ := Blk.has hb2 (i := j * 5 + 2) (by (try simp only [Array.size_setIfInBounds]); rw [hz]; omega)
  have hf := hb2.frozen
  obtain ⟨v3, z3⟩ := Blk.has hb2 (i := j * 5 + 3) (by (try simp only [Array.size_setIfInBounds]); rw [hz]; omega)
  go_wp2_with fail
  refine (markText_int _ (Q + 4) (by omega) _ (by omega)).mono ?_
  rintro e w4 ⟨rfl, hx4⟩
  have hb4 := ((hb2.set_ _ _).set_ _ _).ext hx4
  have hy4 := ((hx.set_ _ _).set_ _ _).next (ExtBut.of_ext hx4)
  clear hx4 hf z2 z3
  clear hb2 hx
  have hx := hy4; clear hy4
  obtain ⟨v4, z4⟩ := Blk.has hb4 (i := j * 5 + 4) (by (try simp only [Array.size_setIfInBounds]); rw [hz]; omega)
  have hf := hb4.frozen
  have hfin := (hb4.set_ (j * 5 + 4) (.string (markB (Q + 4))))
  have HX := hI (hx.set_ (j * 5 + 4) (.string (markB (Q + 4))))
  have hset := Hst.out j hlt
  rw [HM.out, HeadD.mkL_at, HQ.out] at hset
  have HB : Hid (Blk _ g 55 (rowAt HeadD.cells 5 (HeadD.mkL k n) cs (j + 1))) := hI (by rw [← hset]; exact hfin)
  clear hset hfin hb4 hx hz
  go_wp2_with fail
  go_roundw
  case rel => exact ⟨j + 1, by omega, by go_num, congrArg (Value.int .i64) (by have := HQ.out; omega), HB.out, HX.out⟩
  case measure => simp [intOf]; omega
set_option maxHeartbeats 4000000 in
theorem heldHeadS_any (A : Option Addr) (n c k : Nat) (w : World) (hr : ReadsL w w.heap.size HeadD.cells 5 A (HeadD.mkL k n)) (hl : n ≤ 1048576) (hk : k ≤ 1099511627) :
 Calls Tryz.prog 86 #[.slice A n c, .int .i64 (k : Int)] w fun e w' => e = .returned (.int .i64 ((k + n * 5 : Nat) : Int)) ∧ Ext w w' := by
 have Hr := hI hr; clear hr
 go_enter Tryz.func86, Tryz.ntmps86
 go_wp2_with fail
 go_loopw [1, 5] (fun q i wr => ∃ (j : Nat), j ≤ n ∧ i = .int .i64 j ∧ q = .int .i64 ((k + j * 5 : Nat) : Int) ∧ Ext w wr) (fun _ i _ => n - (intOf i).toNat)
 case atStart => exact ⟨0, Nat.zero_le _, rfl, by simp, Below.refl _ _⟩
 case round =>
  obtain ⟨j, hj, rfl, rfl, he⟩ := hrel
  by_cases hlt : j < n
  case neg =>
   obtain rfl : j = n := by omega
   go_wp2_with fail
   go_ret
   exact ⟨rfl, he⟩
  have hln := HeadD.mkL_len k n
  obtain ⟨b, off, rfl, hb, hc⟩ := Reads.at_ (Hr.out.ext he) (k := j) (by rw [hln]; exact hlt)
  have hdl : (HeadD.mkL k n)[j]? = some (HeadD.mk_ (k + j * 5)) := by rw [List.getElem?_eq_getElem (by rw [hln]; exact hlt), HeadD.mkL_at]
  have hkj : k + j * 5 ≤ 1099511627700 := by have := Nat.mul_le_mul_right 5 hj; omega
  have q0 : (0 : Int) ≤ ((k + j * 5 : Nat) : Int) := by omega
  have q1 : ((k + j * 5 : Nat) : Int) ≤ 1099511627700 := by omega
  generalize hQ : k + j * 5 = Q at *
  have HQ := hI hQ
  clear hQ hln
  have C0 : ∀ w2, Ext wr w2 → w2.cell? ⟨b, off + j * 5, none⟩ = some (.int .i64 (Q : Int)) := fun w2 h2 => (h2.cell (p := ⟨b, off + j * 5, none⟩) hb).trans (hc 0 _ (flat_at _ 5 HeadD.cells_length _ j 0 _ hdl (by omega)))
  have C1 : ∀ w2, Ext wr w2 → w2.cell? ⟨b, off + j * 5 + 1, none⟩ = some (.int .i64 ((Q : Int) + 1)) := fun w2 h2 => (h2.cell (p := ⟨b, off + j * 5 + 1, none⟩) hb).trans (hc 1 _ (flat_at _ 5 HeadD.cells_length _ j 1 _ hdl (by omega)))
  have C2 : ∀ w2, Ext wr w2 → w2.cell? ⟨b, off + j * 5 + 2, none⟩ = some (.string (markB (Q + 2))) := fun w2 h2 => (h2.cell (p := ⟨b, off + j * 5 + 2, none⟩) hb).trans (hc 2 _ (flat_at _ 5 HeadD.cells_length _ j 2 _ hdl (by omega)))
  have C3 : ∀ w2, Ext wr w2 → w2.cell? ⟨b, off + j * 5 + 3, none⟩ = some (.int .i64 ((Q : Int) + 3)) := fun w2 h2 => (h2.cell (p := ⟨b, off + j * 5 + 3, none⟩) hb).trans (hc 3 _ (flat_at _ 5 HeadD.cells_length _ j 3 _ hdl (by omega)))
  have C4 : ∀ w2, Ext wr w2 → w2.cell? ⟨b, off + j * 5 + 4, none⟩ = some (.string (markB (Q + 4))) := fun w2 h2 => (h2.cell (p := ⟨b, off + j * 5 + 4, none⟩) hb).trans (hc 4 _ (flat_at _ 5 HeadD.cells_length _ j 4 _ hdl (by omega)))
  obtain ⟨s2, hs2⟩ : ∃ s, s = markB (Q + 2) := ⟨_, rfl⟩
  rw [← hs2] at C2
  have T2 := hI hs2; clear hs2
  obtain ⟨s4, hs4⟩ : ∃ s, s = markB (Q + 4) := ⟨_, rfl⟩
  rw [← hs4] at C4
  have T4 := hI hs4; clear hs4
  have D0 := hI C0; clear C0
  have D1 := hI C1; clear C1
  have D2 := hI C2; clear C2
  have D3 := hI C3; clear C3
  have D4 := hI C4; clear C4
  clear hc hdl
  have E0 := Below.refl wr.heap.size wr
  have H0 := hI (he.next (w2 := wr) E0)
  have d0 := D0.out _ E0
  have d1 := D1.out _ E0
  have d2 := D2.out _ E0
  have d3 := D3.out _ E0
  have d4 := D4.out _ E0
  go_wp2_with fail
  go_region_held3 (fun w' => w'.cell? ⟨b, off + j * 5 + 2, none⟩ = some (.string s2) ∧ Ext wr w')
   (first | (exact ⟨D2.out _ (Below.drew E0), Below.drew E0⟩) | (go_split_ands; have y1 := Ext.next (by assumption) h1; exact ⟨D2.out _ y1, y1⟩))
   (first | (go_at_call 61; refine (markText_int _ (Q + 2) (by omega) _ (by omega)).mono ?_; rintro e w' ⟨he1, h1⟩; rw [← T2.out] at he1; subst he1))
  all_goals
   go_split_ands
   have e2 : Ext wr w' := by assumption
   clear d0 d1 d2 d3 d4
   have d0 := D0.out _ e2
   have d1 := D1.out _ e2
   have d2 := D2.out _ e2
   have d3 := D3.out _ e2
   have d4 := D4.out _ e2
   go_wp2_with fail
   go_region_held3 (fun w' => w'.cell? ⟨b, off + j * 5 + 4, none⟩ = some (.string s4) ∧ Ext wr w')
    (first | (exact ⟨D4.out _ (Below.drew e2), Below.drew e2⟩) | (go_split_ands; have y1 := Ext.next (by assumption) h1; exact ⟨D4.out _ y1, y1⟩))
    (first | (go_at_call 61; refine (markText_int _ (Q + 4) (by omega) _ (by omega)).mono ?_; rintro e w' ⟨he1, h1⟩; rw [← T4.out] at he1; subst he1))
   all_goals
    go_split_ands
    have e4 : Ext wr w' := by assumption
    clear d0 d1 d2 d3 d4
    have d0 := D0.out _ e4
    have d1 := D1.out _ e4
    have d2 := D2.out _ e4
    have d3 := D3.out _ e4
    have d4 := D4.out _ e4
    have H1 := hI (H0.out.next e4)
    go_wp2_with fail
    go_roundw
    case rel => exact ⟨j + 1, by omega, by go_num, congrArg (Value.int .i64) (by have := HQ.out; omega), H1.out⟩
    case measure => simp [intOf]; omega
theorem markHeadS_nil (k : Int) (w : World) : Calls Tryz.prog 59 #[.slice none 0 0, .int .i64 k] w fun e w' => e = .returned (.int .i64 k) ∧ Ext w w' := by
 go_enter Tryz.func59, Tryz.ntmps59
 go_wp2_with fail
 refine wp_loop_rounds 1 ?_
 rw [rounds_succ]
 go_wp2_with fail
 go_ret
 exact ⟨rfl, Below.refl _ _⟩
def WriteD.mk_ (k : Nat) : WriteD := ⟨(k : Int), ((k + 1 : Nat) : Int), markB (k + 2)⟩
def WriteD.mkL (k n : Nat) : List WriteD := (List.range n).map (fun i => WriteD.mk_ (k + i * 3))
theorem WriteD.mkL_len (k n : Nat) : (WriteD.mkL k n).length = n := by simp [WriteD.mkL]
theorem WriteD.mkL_at (k n i : Nat) (h : i < (WriteD.mkL k n).length) : (WriteD.mkL k n)[i] = WriteD.mk_ (k + i * 3) := by simp [WriteD.mkL]
set_option maxHeartbeats 4000000 in
theorem markWriteS_any (g n c k : Nat) (cs : Array Value) (w : World) (hB : Blk w g 112 cs) (hn : n * 3 ≤ cs.size) (hl : n ≤ 1048576) (hk : k ≤ 1099511627) :
 Calls Tryz.prog 28 #[.slice (some ⟨g, 0, none⟩) n c, .int .i64 (k : Int)] w fun e w' => e = .returned (.int .i64 ((k + n * 3 : Nat) : Int)) ∧ Blk w' g 112 (rowAt WriteD.cells 3 (WriteD.mkL k n) cs n) ∧ ExtBut g w w' := by
 have Hn := hI hn
 have Hs := hI (fun j (hj : j ≤ n) => rowAt_size (k := j) WriteD.cells_length (l := WriteD.mkL k n) (cs := cs) (by rw [WriteD.mkL_len]; exact hn) (by rw [WriteD.mkL_len]; exact hj))
 have Hst := hI (fun j (hj : j < n) => rowAt_step (k := j) WriteD.cells_length (l := WriteD.mkL k n) (cs := cs) (by rw [WriteD.mkL_len]; exact hn) (by rw [WriteD.mkL_len]; exact hj))
 clear hn
 have B0 := hI (show Blk w g 112 (rowAt WriteD.cells 3 (WriteD.mkL k n) cs 0) by rw [rowAt_zero]; exact hB)
 clear hB
 go_enter Tryz.func28, Tryz.ntmps28
 go_wp2_with fail
 go_loopw [1, 5] (fun q i wr => ∃ (j : Nat), j ≤ n ∧ i = .int .i64 j ∧ q = .int .i64 ((k + j * 3 : Nat) : Int) ∧ Blk wr g 112 (rowAt WriteD.cells 3 (WriteD.mkL k n) cs j) ∧ ExtBut g w wr) (fun _ i _ => n - (intOf i).toNat)
 case atStart => exact ⟨0, Nat.zero_le _, rfl, by simp, B0.out, ExtBut.refl g w⟩
 case round =>
  clear B0
  obtain ⟨j, hj, rfl, rfl, hb, hx⟩ := hrel
  by_cases hlt : j < n
  case neg =>
   obtain rfl : j = n := by omega
   go_wp2_with fail
   go_ret
   exact ⟨rfl, hb, hx⟩
  have hz := Hs.out j hj
  have hn0 : j * 3 + 3 ≤ cs.size := by have := Hn.out; have := Nat.mul_le_mul_right 3 (show j + 1 ≤ n from hlt); omega
  have hkj : k + j * 3 ≤ 1099511627700 := by have := Nat.mul_le_mul_right 3 hj; omega
  generalize hM : rowAt WriteD.cells 3 (WriteD.mkL k n) cs j = M at *
  have HM := hI hM
  clear hM
  have q0 : (0 : Int) ≤ ((k + j * 3 : Nat) : Int) := by omega
  have q1 : ((k + j * 3 : Nat) : Int) ≤ 1099511627700 := by omega
  generalize hQ : k + j * 3 = Q at *
  have HQ := hI hQ
  clear hQ
  obtain ⟨v0, z0⟩ := Blk.has hb (i := j * 3) (by rw [hz]; omega)
  obtain ⟨v1, z1⟩ := Blk.has hb (i := j * 3 + 1) (by rw [hz]; omega)
  have hf := hb.frozen
  go_wp2_with fail
  refine (markText_int _ (Q + 2) (by omega) _ (by omega)).mono ?_
  rintro e w2 ⟨rfl, hx2⟩
  have hb2 := ((hb.set_ _ _).set_ _ _).ext hx2
  have hy2 := ((hx.set_ _ _).set_ _ _).next (ExtBut.of_ext hx2)
  clear hx2 hf z0 z1
  clear hb hx
  have hx := hy2; clear hy2
  obtain ⟨v2, z2⟩ := Blk.has hb2 (i := j * 3 + 2) (by (try simp only [Array.size_setIfInBounds]); rw [hz]; omega)
  have hf := hb2.frozen
  have hfin := (hb2.set_ (j * 3 + 2) (.string (markB (Q + 2))))
  have HX := hI (hx.set_ (j * 3 + 2) (.string (markB (Q + 2))))
  have hset := Hst.out j hlt
  rw [HM.out, WriteD.mkL_at, HQ.out] at hset
  have HB : Hid (Blk _ g 112 (rowAt WriteD.cells 3 (WriteD.mkL k n) cs (j + 1))) := hI (by rw [← hset]; exact hfin)
  clear hset hfin hb2 hx hz
  go_wp2_with fail
  go_roundw
  case rel => exact ⟨j + 1, by omega, by go_num, congrArg (Value.int .i64) (by have := HQ.out; omega), HB.out, HX.out⟩
  case measure => simp [intOf]; omega
set_option maxHeartbeats 4000000 in
theorem heldWriteS_any (A : Option Addr) (n c k : Nat) (w : World) (hr : ReadsL w w.heap.size WriteD.cells 3 A (WriteD.mkL k n)) (hl : n ≤ 1048576) (hk : k ≤ 1099511627) :
 Calls Tryz.prog 30 #[.slice A n c, .int .i64 (k : Int)] w fun e w' => e = .returned (.int .i64 ((k + n * 3 : Nat) : Int)) ∧ Ext w w' := by
 have Hr := hI hr; clear hr
 go_enter Tryz.func30, Tryz.ntmps30
 go_wp2_with fail
 go_loopw [1, 5] (fun q i wr => ∃ (j : Nat), j ≤ n ∧ i = .int .i64 j ∧ q = .int .i64 ((k + j * 3 : Nat) : Int) ∧ Ext w wr) (fun _ i _ => n - (intOf i).toNat)
 case atStart => exact ⟨0, Nat.zero_le _, rfl, by simp, Below.refl _ _⟩
 case round =>
  obtain ⟨j, hj, rfl, rfl, he⟩ := hrel
  by_cases hlt : j < n
  case neg =>
   obtain rfl : j = n := by omega
   go_wp2_with fail
   go_ret
   exact ⟨rfl, he⟩
  have hln := WriteD.mkL_len k n
  obtain ⟨b, off, rfl, hb, hc⟩ := Reads.at_ (Hr.out.ext he) (k := j) (by rw [hln]; exact hlt)
  have hdl : (WriteD.mkL k n)[j]? = some (WriteD.mk_ (k + j * 3)) := by rw [List.getElem?_eq_getElem (by rw [hln]; exact hlt), WriteD.mkL_at]
  have hkj : k + j * 3 ≤ 1099511627700 := by have := Nat.mul_le_mul_right 3 hj; omega
  have q0 : (0 : Int) ≤ ((k + j * 3 : Nat) : Int) := by omega
  have q1 : ((k + j * 3 : Nat) : Int) ≤ 1099511627700 := by omega
  generalize hQ : k + j * 3 = Q at *
  have HQ := hI hQ
  clear hQ hln
  have C0 : ∀ w2, Ext wr w2 → w2.cell? ⟨b, off + j * 3, none⟩ = some (.int .i64 (Q : Int)) := fun w2 h2 => (h2.cell (p := ⟨b, off + j * 3, none⟩) hb).trans (hc 0 _ (flat_at _ 3 WriteD.cells_length _ j 0 _ hdl (by omega)))
  have C1 : ∀ w2, Ext wr w2 → w2.cell? ⟨b, off + j * 3 + 1, none⟩ = some (.int .i64 ((Q : Int) + 1)) := fun w2 h2 => (h2.cell (p := ⟨b, off + j * 3 + 1, none⟩) hb).trans (hc 1 _ (flat_at _ 3 WriteD.cells_length _ j 1 _ hdl (by omega)))
  have C2 : ∀ w2, Ext wr w2 → w2.cell? ⟨b, off + j * 3 + 2, none⟩ = some (.string (markB (Q + 2))) := fun w2 h2 => (h2.cell (p := ⟨b, off + j * 3 + 2, none⟩) hb).trans (hc 2 _ (flat_at _ 3 WriteD.cells_length _ j 2 _ hdl (by omega)))
  obtain ⟨s2, hs2⟩ : ∃ s, s = markB (Q + 2) := ⟨_, rfl⟩
  rw [← hs2] at C2
  have T2 := hI hs2; clear hs2
  have D0 := hI C0; clear C0
  have D1 := hI C1; clear C1
  have D2 := hI C2; clear C2
  clear hc hdl
  have E0 := Below.refl wr.heap.size wr
  have H0 := hI (he.next (w2 := wr) E0)
  have d0 := D0.out _ E0
  have d1 := D1.out _ E0
  have d2 := D2.out _ E0
  go_wp2_with fail
  go_region_held3 (fun w' => w'.cell? ⟨b, off + j * 3 + 2, none⟩ = some (.string s2) ∧ Ext wr w')
   (first | (exact ⟨D2.out _ (Below.drew E0), Below.drew E0⟩) | (go_split_ands; have y1 := Ext.next (by assumption) h1; exact ⟨D2.out _ y1, y1⟩))
   (first | (go_at_call 61; refine (markText_int _ (Q + 2) (by omega) _ (by omega)).mono ?_; rintro e w' ⟨he1, h1⟩; rw [← T2.out] at he1; subst he1))
  all_goals
   go_split_ands
   have e2 : Ext wr w' := by assumption
   clear d0 d1 d2
   have d0 := D0.out _ e2
   have d1 := D1.out _ e2
   have d2 := D2.out _ e2
   have H1 := hI (H0.out.next e2)
   go_wp2_with fail
   go_roundw
   case rel => exact ⟨j + 1, by omega, by go_num, congrArg (Value.int .i64) (by have := HQ.out; omega), H1.out⟩
   case measure => simp [intOf]; omega
theorem markWriteS_nil (k : Int) (w : World) : Calls Tryz.prog 28 #[.slice none 0 0, .int .i64 k] w fun e w' => e = .returned (.int .i64 k) ∧ Ext w w' := by
 go_enter Tryz.func28, Tryz.ntmps28
 go_wp2_with fail
 refine wp_loop_rounds 1 ?_
 rw [rounds_succ]
 go_wp2_with fail
 go_ret
 exact ⟨rfl, Below.refl _ _⟩
def mkd (cs : Array Value) (k : Nat) : Nat → Array Value
 | 0 => cs
 | i + 1 => (mkd cs k i).setIfInBounds i (.string (markB (k + i)))
theorem mkd_size (cs : Array Value) (k : Nat) : ∀ i, (mkd cs k i).size = cs.size
 | 0 => rfl
 | i + 1 => by rw [mkd, Array.size_setIfInBounds, mkd_size cs k i]
theorem mkd_at (cs : Array Value) (k : Nat) : ∀ (i j : Nat), j < i → j < cs.size → (mkd cs k i)[j]? = some (.string (markB (k + j)))
 | 0, j, h, _ => absurd h (by omega)
 | i + 1, j, h, hs => by
   rw [mkd, Array.getElem?_setIfInBounds]
   split
   · rename_i e; subst e; rw [if_pos (by rw [mkd_size]; exact hs)]
   · exact mkd_at cs k i j (by omega) hs
set_option maxHeartbeats 1000000 in
theorem markStringS_any (g n c k : Nat) (cs : Array Value) (w : World) (hB : Blk w g 9 cs) (hn : n ≤ cs.size) (hl : n ≤ 1048576) (hk : k ≤ 1073741824) :
 Calls Tryz.prog 22 #[.slice (some ⟨g, 0, none⟩) n c, .int .i64 (k : Int)] w fun e w' => e = .returned (.int .i64 ((k + n : Nat) : Int)) ∧ Blk w' g 9 (mkd cs k n) ∧ ExtBut g w w' := by
 have Hn := hI hn
 clear hn
 go_enter Tryz.func22, Tryz.ntmps22
 go_wp2_with fail
 go_loopw [1, 5] (fun q i wr => ∃ (j : Nat), j ≤ n ∧ i = .int .i64 j ∧ q = .int .i64 ((k + j : Nat) : Int) ∧ Blk wr g 9 (mkd cs k j) ∧ ExtBut g w wr) (fun _ i _ => n - (intOf i).toNat)
 case atStart => exact ⟨0, Nat.zero_le _, rfl, rfl, hB, ExtBut.refl g w⟩
 case round =>
  clear hB
  obtain ⟨j, hj, rfl, rfl, hb, hx⟩ := hrel
  by_cases hlt : j < n
  · go_wp2_with fail
    refine (markText_any (k + j) _ (by omega)).mono ?_
    rintro e w1 ⟨rfl, h1⟩
    replace hb := hb.ext h1
    replace hx := hx.next (ExtBut.of_ext h1)
    clear h1
    have hs := mkd_size cs k j
    obtain ⟨v, hv⟩ : ∃ v, w1.cell? ⟨g, j, none⟩ = some v := by
     rw [hb.cell]
     exact ⟨_, Array.getElem?_eq_getElem (by have := Hn.out; omega)⟩
    have hf := hb.frozen j
    have HB := hI (hb.set_ j (.string (markB (k + j))))
    have HX := hI (hx.set_ j (.string (markB (k + j))))
    clear hb hx hs
    go_wp2_with fail
    go_roundw
    case rel => exact ⟨j + 1, by omega, by go_num, by go_num, HB.out, HX.out⟩
    case measure => simp [intOf]; omega
  · obtain rfl : j = n := by omega
    go_wp2_with fail
    go_ret
    exact ⟨rfl, hb, hx⟩
set_option maxHeartbeats 1000000 in
theorem heldStringS_any (g n c k : Nat) (cs : Array Value) (w : World) (hB : Blk w g 9 (mkd cs k n)) (hn : n ≤ cs.size) (hl : n ≤ 1048576) (hk : k ≤ 1073741824) :
 Calls Tryz.prog 23 #[.slice (some ⟨g, 0, none⟩) n c, .int .i64 (k : Int)] w fun e w' => e = .returned (.int .i64 ((k + n : Nat) : Int)) ∧ Ext w w' := by
 have Hn := hI hn
 clear hn
 go_enter Tryz.func23, Tryz.ntmps23
 go_wp2_with fail
 go_loopw [1, 5] (fun q i wr => ∃ (j : Nat), j ≤ n ∧ i = .int .i64 j ∧ q = .int .i64 ((k + j : Nat) : Int) ∧ Ext w wr) (fun _ i _ => n - (intOf i).toNat)
 case atStart => exact ⟨0, Nat.zero_le _, rfl, rfl, Below.refl _ _⟩
 case round =>
  obtain ⟨j, hj, rfl, rfl, he⟩ := hrel
  by_cases hlt : j < n
  · have hb := hB.ext he
    have c0 : wr.cell? ⟨g, j, none⟩ = some (.string (markB (k + j))) := by rw [hb.cell]; exact mkd_at cs k n j hlt (by have := Hn.out; omega)
    obtain ⟨y, hy⟩ : ∃ y, y = markB (k + j) := ⟨_, rfl⟩
    have Hy := hI hy
    rw [← hy] at c0
    have hcell : ∀ w', Ext w w' → w'.cell? ⟨g, j, none⟩ = some (.string y) := fun w' h => by rw [(hB.ext h).cell, hy]; exact mkd_at cs k n j hlt (by have := Hn.out; omega)
    have HC := hI hcell
    clear hb hB hy hcell
    go_wp2_with fail
    go_region_held3 (fun w' => w'.cell? ⟨g, j, none⟩ = some (.string y) ∧ Ext w w')
     (first | exact ⟨c0, he.drew⟩ | (go_split_ands; exact ⟨HC.out _ (Ext.next (by assumption) h1), Ext.next (by assumption) h1⟩))
     (first | (go_at_call 61; refine (markText_any (k + j) _ (by omega)).mono ?_; rintro e w' ⟨he1, h1⟩; rw [← Hy.out] at he1; subst he1))
    all_goals
     go_split_ands
     have he2 : Ext w w' := by assumption
     go_wp2_with fail
     go_roundw
     case rel => exact ⟨j + 1, by omega, by go_num, by go_num, he2⟩
     case measure => simp [intOf]; omega
  · obtain rfl : j = n := by omega
    go_wp2_with fail
    go_ret
    exact ⟨rfl, he⟩
def Marked (w : World) (v : Value) (n : Nat) : Prop := (v = .slice none 0 0 ∧ n = 0) ∨ ∃ g c cs, v = .slice (some ⟨g, 0, none⟩) n c ∧ Blk w g 9 (mkd cs 1 n) ∧ n ≤ cs.size
theorem Marked.ext {w w' : World} {v : Value} {n : Nat} (h : Marked w v n) (he : Ext w w') : Marked w' v n := by
 rcases h with h | ⟨g, c, cs, h1, h2, h3⟩
 · exact .inl h
 · exact .inr ⟨g, c, cs, h1, h2.ext he, h3⟩
theorem markStringS_nil (k : Int) (w : World) : Calls Tryz.prog 22 #[.slice none 0 0, .int .i64 k] w fun e w' => e = .returned (.int .i64 k) ∧ Ext w w' := by
 go_enter Tryz.func22, Tryz.ntmps22
 go_wp2_with fail
 refine wp_loop_rounds 1 ?_
 rw [rounds_succ]
 go_wp2_with fail
 go_ret
 exact ⟨rfl, Below.refl _ _⟩
theorem heldStringS_nil (k : Int) (w : World) : Calls Tryz.prog 23 #[.slice none 0 0, .int .i64 k] w fun e w' => e = .returned (.int .i64 k) ∧ Ext w w' := by
 go_enter Tryz.func23, Tryz.ntmps23
 go_wp2_with fail
 refine wp_loop_rounds 1 ?_
 rw [rounds_succ]
 go_wp2_with fail
 go_ret
 exact ⟨rfl, Below.refl _ _⟩
def InBlock (v : Value) : Nat → Prop := fun b => v.ownBlock = some b
theorem slf_row {α : Type} {f : α → List Value} {size m c g : Nat} {l : List α} {cs : Array Value} {t : TypeId} {w : World} (hf : ∀ a, (f a).length = size) (hl : l.length = m) (hm : m ≤ c) (hc : c ≤ maxLen) (hb : Blk w g t (rowAt f size l cs m)) : SlF (InBlock (.slice (some ⟨g, 0, none⟩) m c)) f size w (some ⟨g, 0, none⟩) l c := by
 subst hl
 exact ⟨hm, hc, rowAt_reads hf hb, fun _ a e => by cases e; rfl⟩
theorem markEntryS_row {K m k : Nat} {w : World} {v : Value} {a : List EntryD} (h : w.ownsRow K 46 5 v m (a.flatMap EntryD.cells)) (hl : m ≤ 1048576) (hk : k ≤ 1099511627) :
 Calls Tryz.prog 116 #[v, .int .i64 (k : Int)] w fun e w' => e = .returned (.int .i64 ((k + m * 5 : Nat) : Int)) ∧ (∃ A c, v = .slice A m c ∧ SlF (InBlock v) EntryD.cells 5 w' A (EntryD.mkL k m) c) ∧ Frm (InBlock v) w w' := by
 rcases h.2 with ⟨rfl, rfl⟩ | ⟨g, cap, cur, rfl, hg, hh, hnc, hm, hs, ht⟩
 · refine (markEntryS_nil _ w).mono ?_
   rintro e w' ⟨rfl, h3⟩
   exact ⟨by simp, ⟨none, 0, rfl, by simpa [EntryD.mkL] using SlF.nil _ _ _ _⟩, Frm.of_ext h3⟩
 · refine (markEntryS_any g m cap k cur w hh (by rw [hs]; exact Nat.mul_le_mul_right _ hnc) hl hk).mono ?_
   rintro e w' ⟨rfl, h3, h4⟩
   exact ⟨rfl, ⟨_, _, rfl, slf_row EntryD.cells_length (EntryD.mkL_len _ _) hnc hm h3⟩, Frm.of_grown h4 (fun b hb => by cases hb; rfl)⟩
theorem markReceiptS_row {K m k : Nat} {w : World} {v : Value} {a : List ReceiptD} (h : w.ownsRow K 77 3 v m (a.flatMap ReceiptD.cells)) (hl : m ≤ 1048576) (hk : k ≤ 1099511627) :
 Calls Tryz.prog 58 #[v, .int .i64 (k : Int)] w fun e w' => e = .returned (.int .i64 ((k + m * 3 : Nat) : Int)) ∧ (∃ A c, v = .slice A m c ∧ SlF (InBlock v) ReceiptD.cells 3 w' A (ReceiptD.mkL k m) c) ∧ Frm (InBlock v) w w' := by
 rcases h.2 with ⟨rfl, rfl⟩ | ⟨g, cap, cur, rfl, hg, hh, hnc, hm, hs, ht⟩
 · refine (markReceiptS_nil _ w).mono ?_
   rintro e w' ⟨rfl, h3⟩
   exact ⟨by simp, ⟨none, 0, rfl, by simpa [ReceiptD.mkL] using SlF.nil _ _ _ _⟩, Frm.of_ext h3⟩
 · refine (markReceiptS_any g m cap k cur w hh (by rw [hs]; exact Nat.mul_le_mul_right _ hnc) hl hk).mono ?_
   rintro e w' ⟨rfl, h3, h4⟩
   exact ⟨rfl, ⟨_, _, rfl, slf_row ReceiptD.cells_length (ReceiptD.mkL_len _ _) hnc hm h3⟩, Frm.of_grown h4 (fun b hb => by cases hb; rfl)⟩
theorem markHeadS_row {K m k : Nat} {w : World} {v : Value} {a : List HeadD} (h : w.ownsRow K 55 5 v m (a.flatMap HeadD.cells)) (hl : m ≤ 1048576) (hk : k ≤ 1099511627) :
 Calls Tryz.prog 59 #[v, .int .i64 (k : Int)] w fun e w' => e = .returned (.int .i64 ((k + m * 5 : Nat) : Int)) ∧ (∃ A c, v = .slice A m c ∧ SlF (InBlock v) HeadD.cells 5 w' A (HeadD.mkL k m) c) ∧ Frm (InBlock v) w w' := by
 rcases h.2 with ⟨rfl, rfl⟩ | ⟨g, cap, cur, rfl, hg, hh, hnc, hm, hs, ht⟩
 · refine (markHeadS_nil _ w).mono ?_
   rintro e w' ⟨rfl, h3⟩
   exact ⟨by simp, ⟨none, 0, rfl, by simpa [HeadD.mkL] using SlF.nil _ _ _ _⟩, Frm.of_ext h3⟩
 · refine (markHeadS_any g m cap k cur w hh (by rw [hs]; exact Nat.mul_le_mul_right _ hnc) hl hk).mono ?_
   rintro e w' ⟨rfl, h3, h4⟩
   exact ⟨rfl, ⟨_, _, rfl, slf_row HeadD.cells_length (HeadD.mkL_len _ _) hnc hm h3⟩, Frm.of_grown h4 (fun b hb => by cases hb; rfl)⟩
theorem markWriteS_row {K m k : Nat} {w : World} {v : Value} {a : List WriteD} (h : w.ownsRow K 112 3 v m (a.flatMap WriteD.cells)) (hl : m ≤ 1048576) (hk : k ≤ 1099511627) :
 Calls Tryz.prog 28 #[v, .int .i64 (k : Int)] w fun e w' => e = .returned (.int .i64 ((k + m * 3 : Nat) : Int)) ∧ (∃ A c, v = .slice A m c ∧ SlF (InBlock v) WriteD.cells 3 w' A (WriteD.mkL k m) c) ∧ Frm (InBlock v) w w' := by
 rcases h.2 with ⟨rfl, rfl⟩ | ⟨g, cap, cur, rfl, hg, hh, hnc, hm, hs, ht⟩
 · refine (markWriteS_nil _ w).mono ?_
   rintro e w' ⟨rfl, h3⟩
   exact ⟨by simp, ⟨none, 0, rfl, by simpa [WriteD.mkL] using SlF.nil _ _ _ _⟩, Frm.of_ext h3⟩
 · refine (markWriteS_any g m cap k cur w hh (by rw [hs]; exact Nat.mul_le_mul_right _ hnc) hl hk).mono ?_
   rintro e w' ⟨rfl, h3, h4⟩
   exact ⟨rfl, ⟨_, _, rfl, slf_row WriteD.cells_length (WriteD.mkL_len _ _) hnc hm h3⟩, Frm.of_grown h4 (fun b hb => by cases hb; rfl)⟩
def SMk (w : World) (v : Value) (k n : Nat) : Prop := (v = .slice none 0 0 ∧ n = 0) ∨ ∃ g c cs, v = .slice (some ⟨g, 0, none⟩) n c ∧ Blk w g 9 (mkd cs k n) ∧ n ≤ cs.size
theorem SMk.ext {w w' : World} {v : Value} {k n : Nat} (h : SMk w v k n) (he : Ext w w') : SMk w' v k n := by
 rcases h with h | ⟨g, c, cs, h1, h2, h3⟩
 · exact .inl h
 · exact .inr ⟨g, c, cs, h1, h2.ext he, h3⟩
theorem SMk.frm {w w' : World} {v : Value} {k n : Nat} {X : Nat → Prop} (h : SMk w v k n) (he : Frm X w w') (hX : ∀ b, v.ownBlock = some b → ¬ X b) : SMk w' v k n := by
 rcases h with h | ⟨g, c, cs, rfl, h2, h3⟩
 · exact .inl h
 · exact .inr ⟨g, c, cs, rfl, he.blk h2 (hX g rfl), h3⟩
theorem markStringS_row {K m k : Nat} {w : World} {v : Value} {a : List Value} (h : w.ownsRow K 9 1 v m a) (hl : m ≤ 1048576) (hk : k ≤ 1073741824) :
 Calls Tryz.prog 22 #[v, .int .i64 (k : Int)] w fun e w' => e = .returned (.int .i64 ((k + m : Nat) : Int)) ∧ SMk w' v k m ∧ Frm (InBlock v) w w' := by
 rcases h.2 with ⟨rfl, rfl⟩ | ⟨g, cap, cur, rfl, hg, hh, hnc, hm, hs, ht⟩
 · refine (markStringS_nil _ w).mono ?_
   rintro e w' ⟨rfl, h3⟩
   exact ⟨by simp, .inl ⟨rfl, rfl⟩, Frm.of_ext h3⟩
 · have hn : m ≤ cur.size := by rw [hs]; omega
   refine (markStringS_any g m cap k cur w hh hn hl hk).mono ?_
   rintro e w' ⟨rfl, h3, h4⟩
   exact ⟨rfl, .inr ⟨g, cap, cur, rfl, h3, hn⟩, Frm.of_grown h4 (fun b hb => by cases hb; rfl)⟩
theorem heldStringS_row {m k : Nat} {w : World} {v : Value} (h : SMk w v k m) (hl : m ≤ 1048576) (hk : k ≤ 1073741824) :
 Calls Tryz.prog 23 #[v, .int .i64 (k : Int)] w fun e w' => e = .returned (.int .i64 ((k + m : Nat) : Int)) ∧ Ext w w' := by
 rcases h with ⟨rfl, rfl⟩ | ⟨g, c, cs, rfl, h2, h3⟩
 · exact heldStringS_nil _ w
 · exact heldStringS_any g m c k cs w h2 h3 hl hk
def FMk {α : Type} (f : α → List Value) (size : Nat) (mk : Nat → Nat → List α) (w : World) (v : Value) (k m : Nat) : Prop := ∃ A c, v = .slice A m c ∧ SlF (InBlock v) f size w A (mk k m) c
section
variable {α : Type} {f : α → List Value} {size : Nat} {mk : Nat → Nat → List α}
theorem FMk.ext {w w' : World} {v : Value} {k m : Nat} (h : FMk f size mk w v k m) (he : Ext w w') : FMk f size mk w' v k m := by obtain ⟨A, c, h1, h2⟩ := h; exact ⟨A, c, h1, h2.ext he⟩
theorem FMk.frm {w w' : World} {v : Value} {k m : Nat} {X : Nat → Prop} (h : FMk f size mk w v k m) (he : Frm X w w') (hX : ∀ b, v.ownBlock = some b → ¬ X b) : FMk f size mk w' v k m := by
 obtain ⟨A, c, h1, h2⟩ := h; exact ⟨A, c, h1, h2.keep (he.keep (fun b _ hb => hX b hb))⟩
end
theorem heldFM_Entry {w : World} {V : Option Addr} {c m k : Nat} (h : FMk EntryD.cells 5 EntryD.mkL w (.slice V m c) k m) (hl : m ≤ 1048576) (hk : k ≤ 1099511627) :
 Calls Tryz.prog 148 #[.slice V m c, .int .i64 (k : Int)] w fun e w' => e = .returned (.int .i64 ((k + m * 5 : Nat) : Int)) ∧ Ext w w' := by
 obtain ⟨A, c', e, s⟩ := h
 cases e
 exact heldEntryS_any V m c k w s.reads hl hk
theorem heldFM_Receipt {w : World} {V : Option Addr} {c m k : Nat} (h : FMk ReceiptD.cells 3 ReceiptD.mkL w (.slice V m c) k m) (hl : m ≤ 1048576) (hk : k ≤ 1099511627) :
 Calls Tryz.prog 85 #[.slice V m c, .int .i64 (k : Int)] w fun e w' => e = .returned (.int .i64 ((k + m * 3 : Nat) : Int)) ∧ Ext w w' := by
 obtain ⟨A, c', e, s⟩ := h
 cases e
 exact heldReceiptS_any V m c k w s.reads hl hk
theorem heldFM_Head {w : World} {V : Option Addr} {c m k : Nat} (h : FMk HeadD.cells 5 HeadD.mkL w (.slice V m c) k m) (hl : m ≤ 1048576) (hk : k ≤ 1099511627) :
 Calls Tryz.prog 86 #[.slice V m c, .int .i64 (k : Int)] w fun e w' => e = .returned (.int .i64 ((k + m * 5 : Nat) : Int)) ∧ Ext w w' := by
 obtain ⟨A, c', e, s⟩ := h
 cases e
 exact heldHeadS_any V m c k w s.reads hl hk
theorem markLog_row {K m k : Nat} {v : Value} {a : List EntryD} (w : World) (ho : w.ownsRow K 46 5 v m (a.flatMap EntryD.cells)) (hl : m ≤ 1000) (hk : k ≤ 1000000) :
 Calls Tryz.prog 57 #[.agg #[v], .int .i64 (k : Int)] w fun e w' => e = .returned (.int .i64 ((k + m * 5 : Nat) : Int)) ∧ FMk EntryD.cells 5 EntryD.mkL w' v k m ∧ Frm (InBlock v) w w' := by
 obtain ⟨V, c, rfl, _⟩ := ownsRow_form ho
 have He := hI (Ext.new (Below.refl w.heap.size w) (.cells #[.slice V m c] 51))
 have HO := hI ho; clear ho
 go_enter Tryz.func57, Tryz.ntmps57
 go_wp2_with fail
 refine (markEntryS_row (k := k) (ownsRow_ext HO.out He.out) (by omega) (by omega)).mono ?_
 rintro e w1 ⟨rfl, m1, f1⟩
 have M1 := hI m1
 have F1 := hI ((Frm.of_ext (X := InBlock (.slice V m c)) He.out).next f1 (fun b _ h => h))
 clear m1 f1
 go_wp2_with fail
 go_ret
 exact ⟨rfl, M1.out, F1.out⟩
theorem heldLog_row {m k : Nat} {V : Option Addr} {c : Nat} (w : World) (hm : FMk EntryD.cells 5 EntryD.mkL w (.slice V m c) k m) (hl : m ≤ 1000) (hk : k ≤ 1000000) :
 Calls Tryz.prog 84 #[.agg #[.slice V m c], .int .i64 (k : Int)] w fun e w' => e = .returned (.int .i64 ((k + m * 5 : Nat) : Int)) ∧ Ext w w' := by
 have HM := hI hm; clear hm
 have He := hI (Ext.new (Below.refl w.heap.size w) (.cells #[.slice V m c] 51))
 have q0 : (0 : Int) ≤ ((k + m * 5 : Nat) : Int) := by omega
 go_enter Tryz.func84, Tryz.ntmps84
 go_wp2_with fail
 refine (heldFM_Entry (HM.out.ext He.out) (by omega) (by omega)).mono ?_
 rintro e w1 ⟨rfl, h1⟩
 have he := He.out.next h1
 go_wp2_with fail
 go_ret
 exact ⟨rfl, he⟩
theorem markRange_row {K m k : Nat} {v : Value} {a : List Value} (n : Int) (w : World) (ho : w.ownsRow K 9 1 v m a) (hl : m ≤ 1000) (hk : k ≤ 1000000) :
 Calls Tryz.prog 117 #[.agg #[.int .i64 n, v], .int .i64 (k : Int)] w fun e w' => e = .returned (.int .i64 ((k + m : Nat) : Int)) ∧ SMk w' v k m ∧ Frm (InBlock v) w w' := by
 obtain ⟨V, c, rfl, _⟩ := ownsRow_form ho
 have He := hI (Ext.new (Below.refl w.heap.size w) (.cells #[.int .i64 n, .slice V m c] 54))
 have HO := hI ho; clear ho
 go_enter Tryz.func117, Tryz.ntmps117
 go_wp2_with fail
 refine (markStringS_row (k := k) (ownsRow_ext HO.out He.out) (by omega) (by omega)).mono ?_
 rintro e w1 ⟨rfl, m1, f1⟩
 have M1 := hI m1
 have F1 := hI ((Frm.of_ext (X := InBlock (.slice V m c)) He.out).next f1 (fun b _ h => h))
 clear m1 f1
 go_wp2_with fail
 go_ret
 exact ⟨rfl, M1.out, F1.out⟩
theorem heldRange_row {m k : Nat} {V : Option Addr} {c : Nat} (n : Int) (w : World) (hm : SMk w (.slice V m c) k m) (hl : m ≤ 1000) (hk : k ≤ 1000000) :
 Calls Tryz.prog 149 #[.agg #[.int .i64 n, .slice V m c], .int .i64 (k : Int)] w fun e w' => e = .returned (.int .i64 ((k + m : Nat) : Int)) ∧ Ext w w' := by
 have HM := hI hm; clear hm
 have He := hI (Ext.new (Below.refl w.heap.size w) (.cells #[.int .i64 n, .slice V m c] 54))
 have q0 : (0 : Int) ≤ ((k + m : Nat) : Int) := by omega
 go_enter Tryz.func149, Tryz.ntmps149
 go_wp2_with fail
 refine (heldStringS_row (HM.out.ext He.out) (by omega) (by omega)).mono ?_
 rintro e w1 ⟨rfl, h1⟩
 have he := He.out.next h1
 go_wp2_with fail
 go_ret
 exact ⟨rfl, he⟩
set_option maxHeartbeats 1000000 in
theorem markSeal_row {K1 K2 m1 m2 k : Nat} {v1 v2 : Value} {a1 a2 : List Value} (n1 n2 : Int) (h : HeadD) (w : World) (ho1 : w.ownsRow K1 9 1 v1 m1 a1) (ho2 : w.ownsRow K2 9 1 v2 m2 a2) (hap : ∀ x, v1.ownBlock = some x → v2.ownBlock ≠ some x) (hl1 : m1 ≤ 1000) (hl2 : m2 ≤ 1000) (hk : k ≤ 900000) :
 Calls Tryz.prog 60 #[.agg #[.int .i64 n1, v1, .int .i64 n2, v2, .int .i64 h.number, .int .i64 h.size, .string h.root, .int .i64 h.taken, .string h.takenRoot], .int .i64 (k : Int)] w fun e w' => e = .returned (.int .i64 ((k + m1 + m2 : Nat) : Int)) ∧ SMk w' v1 k m1 ∧ SMk w' v2 (k + m1) m2 ∧ Frm (fun b => InBlock v1 b ∨ InBlock v2 b) w w' := by
 obtain ⟨V1, c1, rfl, _⟩ := ownsRow_form ho1
 obtain ⟨V2, c2, rfl, _⟩ := ownsRow_form ho2
 have K0 := Blk.new w 57 #[.int .i64 n1, .slice V1 m1 c1, .int .i64 n2, .slice V2 m2 c2, .int .i64 h.number, .int .i64 h.size, .string h.root, .int .i64 h.taken, .string h.takenRoot]
 have He := hI (Ext.new (Below.refl w.heap.size w) (.cells #[.int .i64 n1, .slice V1 m1 c1, .int .i64 n2, .slice V2 m2 c2, .int .i64 h.number, .int .i64 h.size, .string h.root, .int .i64 h.taken, .string h.takenRoot] 57))
 have H1 := hI ho1; have H2 := hI ho2; have AP := hI hap
 clear ho1 ho2 hap
 obtain ⟨r0, f0⟩ := K0.rules
 go_enter Tryz.func60, Tryz.ntmps60
 go_wp2_with fail
 refine (markRange_row (k := k) n1 _ (ownsRow_ext H1.out He.out) (by omega) (by omega)).mono ?_
 rintro e w1 ⟨rfl, mm, f1⟩
 have k0 := f1.blk K0 (fun e => by have := (H1.out.lt _ e).2; omega)
 have o2 := hI (f1.own (ownsRow_ext H2.out He.out) (fun b hb e => AP.out b e hb))
 have M1 := hI mm
 have F1 := hI ((Frm.of_ext (X := InBlock (.slice V1 m1 c1)) He.out).next f1 (fun b _ h => h))
 clear mm f1 r0 f0 K0
 obtain ⟨r0, f0⟩ := k0.rules
 go_wp2_with fail
 refine (markRange_row (k := k + m1) n2 _ o2.out (by omega) (by omega)).mono ?_
 rintro e w2 ⟨rfl, mm, f2⟩
 have M2 := hI mm
 have M1' := hI (M1.out.frm f2 (fun b hb e => AP.out b hb e))
 have F2 := hI ((F1.out.mono (Y := fun b => InBlock (.slice V1 m1 c1) b ∨ InBlock (.slice V2 m2 c2) b) (fun b _ h => .inl h)).next f2 (fun b _ h => .inr h))
 clear mm f2 r0 f0 k0
 go_wp2_with fail
 go_ret
 exact ⟨rfl, M1'.out, M2.out, F2.out⟩
set_option maxHeartbeats 1000000 in
theorem heldSeal_row {m1 m2 k : Nat} {V1 V2 : Option Addr} {c1 c2 : Nat} (n1 n2 : Int) (h : HeadD) (w : World) (hm1 : SMk w (.slice V1 m1 c1) k m1) (hm2 : SMk w (.slice V2 m2 c2) (k + m1) m2) (hl1 : m1 ≤ 1000) (hl2 : m2 ≤ 1000) (hk : k ≤ 900000) :
 Calls Tryz.prog 87 #[.agg #[.int .i64 n1, .slice V1 m1 c1, .int .i64 n2, .slice V2 m2 c2, .int .i64 h.number, .int .i64 h.size, .string h.root, .int .i64 h.taken, .string h.takenRoot], .int .i64 (k : Int)] w fun e w' => e = .returned (.int .i64 ((k + m1 + m2 : Nat) : Int)) ∧ Ext w w' := by
 have K0 := Blk.new w 57 #[.int .i64 n1, .slice V1 m1 c1, .int .i64 n2, .slice V2 m2 c2, .int .i64 h.number, .int .i64 h.size, .string h.root, .int .i64 h.taken, .string h.takenRoot]
 have He := hI (Ext.new (Below.refl w.heap.size w) (.cells #[.int .i64 n1, .slice V1 m1 c1, .int .i64 n2, .slice V2 m2 c2, .int .i64 h.number, .int .i64 h.size, .string h.root, .int .i64 h.taken, .string h.takenRoot] 57))
 have H1 := hI hm1; have H2 := hI hm2
 clear hm1 hm2
 have q0 : (0 : Int) ≤ ((k + m1 : Nat) : Int) := by omega
 have q1 : (0 : Int) ≤ ((k + m1 + m2 : Nat) : Int) := by omega
 obtain ⟨r0, f0⟩ := K0.rules
 go_enter Tryz.func87, Tryz.ntmps87
 go_wp2_with fail
 refine (heldRange_row n1 _ (H1.out.ext He.out) (by omega) (by omega)).mono ?_
 rintro e w1 ⟨rfl, h1⟩
 have he := He.out.next h1; have k0 := K0.ext h1
 clear h1 r0 f0 K0
 obtain ⟨r0, f0⟩ := k0.rules
 go_wp2_with fail
 refine (heldRange_row (k := k + m1) n2 _ (H2.out.ext he) (by omega) (by omega)).mono ?_
 rintro e w2 ⟨rfl, h1⟩
 replace he := he.next h1
 clear h1 r0 f0 k0
 go_wp2_with fail
 go_ret
 exact ⟨rfl, he⟩
def BrkN (b : BrokerD) : Nat := b.log.entries.length * 5 + b.receipts.length * 3 + b.heads.length * 5 + b.sealed.leaves.peaks.length + b.sealed.taken.peaks.length
structure BMk (w : World) (b : BrokerD) (ve vr vh v1 v2 : Value) (k : Nat) : Prop where
 e : FMk EntryD.cells 5 EntryD.mkL w ve k b.log.entries.length
 r : FMk ReceiptD.cells 3 ReceiptD.mkL w vr (k + b.log.entries.length * 5) b.receipts.length
 h : FMk HeadD.cells 5 HeadD.mkL w vh (k + b.log.entries.length * 5 + b.receipts.length * 3) b.heads.length
 p : SMk w v1 (k + b.log.entries.length * 5 + b.receipts.length * 3 + b.heads.length * 5) b.sealed.leaves.peaks.length
 q : SMk w v2 (k + b.log.entries.length * 5 + b.receipts.length * 3 + b.heads.length * 5 + b.sealed.leaves.peaks.length) b.sealed.taken.peaks.length
theorem BMk.ext {w w' : World} {b : BrokerD} {ve vr vh v1 v2 : Value} {k : Nat} (h : BMk w b ve vr vh v1 v2 k) (he : Ext w w') : BMk w' b ve vr vh v1 v2 k := ⟨h.e.ext he, h.r.ext he, h.h.ext he, h.p.ext he, h.q.ext he⟩
def BBlk (ve vr vh v1 v2 : Value) (x : Nat) : Prop := InBlock ve x ∨ InBlock vr x ∨ InBlock vh x ∨ InBlock v1 x ∨ InBlock v2 x
theorem BMk.frm {w w' : World} {b : BrokerD} {ve vr vh v1 v2 : Value} {k : Nat} {X : Nat → Prop} (h : BMk w b ve vr vh v1 v2 k) (he : Frm X w w') (hX : ∀ x, BBlk ve vr vh v1 v2 x → ¬ X x) : BMk w' b ve vr vh v1 v2 k :=
 ⟨h.e.frm he (fun x hx => hX x (.inl hx)), h.r.frm he (fun x hx => hX x (.inr (.inl hx))), h.h.frm he (fun x hx => hX x (.inr (.inr (.inl hx)))), h.p.frm he (fun x hx => hX x (.inr (.inr (.inr (.inl hx))))), h.q.frm he (fun x hx => hX x (.inr (.inr (.inr (.inr hx)))))⟩
structure BLen (b : BrokerD) : Prop where
 e : b.log.entries.length ≤ 1000
 r : b.receipts.length ≤ 1000
 h : b.heads.length ≤ 1000
 p : b.sealed.leaves.peaks.length ≤ 1000
 q : b.sealed.taken.peaks.length ≤ 1000
set_option maxHeartbeats 4000000 in
theorem markBroker_row {K k : Nat} {b : BrokerD} {ve vr vh v1 v2 : Value} (w : World) (hB : BRows K w b ve vr vh v1 v2) (hap : ∀ x, v1.ownBlock = some x → v2.ownBlock ≠ some x) (hl : BLen b) (hk : k ≤ 100000) :
 Calls Tryz.prog 21 #[.agg (brkCs b ve vr vh v1 v2).toArray, .int .i64 (k : Int)] w fun e w' => e = .returned (.int .i64 ((k + BrkN b : Nat) : Int)) ∧ BMk w' b ve vr vh v1 v2 k ∧ Frm (BBlk ve vr vh v1 v2) w w' := by
 obtain ⟨le, lr, lh, lp, lq⟩ := hl
 obtain ⟨he, hr, hh, hp, hq⟩ := hB
 have a1 := own_apart he hr (by decide); have a2 := own_apart he hh (by decide); have a3 := own_apart he hp (by decide); have a4 := own_apart he hq (by decide)
 have a5 := own_apart hr hh (by decide); have a6 := own_apart hr hp (by decide); have a7 := own_apart hr hq (by decide)
 have a8 := own_apart hh hp (by decide); have a9 := own_apart hh hq (by decide)
 obtain ⟨E0, e0, rfl, _⟩ := ownsRow_form he
 obtain ⟨E1, e1, rfl, _⟩ := ownsRow_form hr
 obtain ⟨E2, e2, rfl, _⟩ := ownsRow_form hh
 obtain ⟨E3, e3, rfl, _⟩ := ownsRow_form hp
 obtain ⟨E4, e4, rfl, _⟩ := ownsRow_form hq
 have K0 := Blk.new w 59 #[.int .i64 b.width, .slice E0 b.log.entries.length e0, .slice E1 b.receipts.length e1, .slice E2 b.heads.length e2, .int .i64 b.sealed.leaves.size, .slice E3 b.sealed.leaves.peaks.length e3, .int .i64 b.sealed.taken.size, .slice E4 b.sealed.taken.peaks.length e4, .int .i64 b.sealed.head.number, .int .i64 b.sealed.head.size, .string b.sealed.head.root, .int .i64 b.sealed.head.taken, .string b.sealed.head.takenRoot]
 have x0 := Ext.new (Below.refl w.heap.size w) (.cells #[.int .i64 b.width, .slice E0 b.log.entries.length e0, .slice E1 b.receipts.length e1, .slice E2 b.heads.length e2, .int .i64 b.sealed.leaves.size, .slice E3 b.sealed.leaves.peaks.length e3, .int .i64 b.sealed.taken.size, .slice E4 b.sealed.taken.peaks.length e4, .int .i64 b.sealed.head.number, .int .i64 b.sealed.head.size, .string b.sealed.head.root, .int .i64 b.sealed.head.taken, .string b.sealed.head.takenRoot] 59)
 have X0 := hI x0
 have LT := hI (show ∀ x, BBlk (.slice E0 b.log.entries.length e0) (.slice E1 b.receipts.length e1) (.slice E2 b.heads.length e2) (.slice E3 b.sealed.leaves.peaks.length e3) (.slice E4 b.sealed.taken.peaks.length e4) x → x < w.heap.size from fun x hx => by
  rcases hx with h | h | h | h | h
  · exact (he.lt x h).2
  · exact (hr.lt x h).2
  · exact (hh.lt x h).2
  · exact (hp.lt x h).2
  · exact (hq.lt x h).2)
 have OE := hI (ownsRow_ext he x0); have OR := hI (ownsRow_ext hr x0); have OH := hI (ownsRow_ext hh x0); have OP := hI (ownsRow_ext hp x0); have OQ := hI (ownsRow_ext hq x0)
 have A1 := hI a1; have A2 := hI a2; have A3 := hI a3; have A4 := hI a4; have A5 := hI a5; have A6 := hI a6; have A7 := hI a7; have A8 := hI a8; have A9 := hI a9; have AP := hI hap
 clear he hr hh hp hq a1 a2 a3 a4 a5 a6 a7 a8 a9 hap x0
 simp only [brkCs]
 obtain ⟨r0, f0⟩ := K0.rules
 go_enter Tryz.func21, Tryz.ntmps21
 go_wp2_with fail
 refine (markLog_row (k := k) _ OE.out (by omega) (by omega)).mono ?_
 rintro e w1 ⟨rfl, mm, f1⟩
 have k1 := f1.blk K0 (fun e => by have := LT.out _ (.inl e); omega)
 replace OR := hI (f1.own OR.out (fun x hx e => A1.out x e hx)); replace OH := hI (f1.own OH.out (fun x hx e => A2.out x e hx)); replace OP := hI (f1.own OP.out (fun x hx e => A3.out x e hx)); replace OQ := hI (f1.own OQ.out (fun x hx e => A4.out x e hx))
 have ME := hI mm
 have F := hI ((Frm.of_ext (X := BBlk (.slice E0 b.log.entries.length e0) (.slice E1 b.receipts.length e1) (.slice E2 b.heads.length e2) (.slice E3 b.sealed.leaves.peaks.length e3) (.slice E4 b.sealed.taken.peaks.length e4)) X0.out).next f1 (fun x _ h => .inl h))
 clear mm f1 r0 f0 K0 OE
 obtain ⟨r0, f0⟩ := k1.rules
 go_wp2_with fail
 refine (markReceiptS_row (k := k + b.log.entries.length * 5) OR.out (by omega) (by omega)).mono ?_
 rintro e w2 ⟨rfl, mm, f1⟩
 have k2 := f1.blk k1 (fun e => by have := LT.out _ (.inr (.inl e)); omega)
 replace OH := hI (f1.own OH.out (fun x hx e => A5.out x e hx)); replace OP := hI (f1.own OP.out (fun x hx e => A6.out x e hx)); replace OQ := hI (f1.own OQ.out (fun x hx e => A7.out x e hx))
 replace ME := hI (ME.out.frm f1 (fun x hx e => A1.out x hx e))
 have MR := hI (show FMk ReceiptD.cells 3 ReceiptD.mkL w2 _ _ _ from mm)
 replace F := hI (F.out.next f1 (fun x _ h => .inr (.inl h)))
 clear mm f1 r0 f0 k1 OR
 obtain ⟨r0, f0⟩ := k2.rules
 go_wp2_with fail
 refine (markHeadS_row (k := k + b.log.entries.length * 5 + b.receipts.length * 3) OH.out (by omega) (by omega)).mono ?_
 rintro e w3 ⟨rfl, mm, f1⟩
 have k3 := f1.blk k2 (fun e => by have := LT.out _ (.inr (.inr (.inl e))); omega)
 replace OP := hI (f1.own OP.out (fun x hx e => A8.out x e hx)); replace OQ := hI (f1.own OQ.out (fun x hx e => A9.out x e hx))
 replace ME := hI (ME.out.frm f1 (fun x hx e => A2.out x hx e)); replace MR := hI (MR.out.frm f1 (fun x hx e => A5.out x hx e))
 have MH := hI (show FMk HeadD.cells 5 HeadD.mkL w3 _ _ _ from mm)
 replace F := hI (F.out.next f1 (fun x _ h => .inr (.inr (.inl h))))
 clear mm f1 r0 f0 k2 OH
 obtain ⟨r0, f0⟩ := k3.rules
 have R0 : Hid (w3.rangeAt w.heap.size 4 [.int .i64 b.sealed.leaves.size, .slice E3 b.sealed.leaves.peaks.length e3, .int .i64 b.sealed.taken.size, .slice E4 b.sealed.taken.peaks.length e4, .int .i64 b.sealed.head.number, .int .i64 b.sealed.head.size, .string b.sealed.head.root, .int .i64 b.sealed.head.taken, .string b.sealed.head.takenRoot]) := hI (fun j v hv => by
  rw [k3.cell]
  have hj : j < 9 := by have := (List.getElem?_eq_some_iff.1 hv).1; simpa using this
  match j, hj, hv with
  | 0, _, hv => exact hv
  | 1, _, hv => exact hv
  | 2, _, hv => exact hv
  | 3, _, hv => exact hv
  | 4, _, hv => exact hv
  | 5, _, hv => exact hv
  | 6, _, hv => exact hv
  | 7, _, hv => exact hv
  | 8, _, hv => exact hv)
 go_wp2_with (refine wpList_load_mid rfl 57 _ rfl w.heap.size 4 rfl [.int .i64 b.sealed.leaves.size, .slice E3 b.sealed.leaves.peaks.length e3, .int .i64 b.sealed.taken.size, .slice E4 b.sealed.taken.peaks.length e4, .int .i64 b.sealed.head.number, .int .i64 b.sealed.head.size, .string b.sealed.head.root, .int .i64 b.sealed.head.taken, .string b.sealed.head.takenRoot] _ R0.out Tryz.underlying57 rfl (by kernel_rfl) ?_)
 refine (markSeal_row (k := k + b.log.entries.length * 5 + b.receipts.length * 3 + b.heads.length * 5) b.sealed.leaves.size b.sealed.taken.size b.sealed.head _ OP.out OQ.out AP.out (by omega) (by omega) (by omega)).mono ?_
 rintro e w4 ⟨rfl, mp, mq, f1⟩
 have M : Hid (BMk w4 b (.slice E0 b.log.entries.length e0) (.slice E1 b.receipts.length e1) (.slice E2 b.heads.length e2) (.slice E3 b.sealed.leaves.peaks.length e3) (.slice E4 b.sealed.taken.peaks.length e4) k) := hI
  ⟨ME.out.frm f1 (fun x hx e => e.elim (A3.out x hx) (A4.out x hx)), MR.out.frm f1 (fun x hx e => e.elim (A6.out x hx) (A7.out x hx)), MH.out.frm f1 (fun x hx e => e.elim (A8.out x hx) (A9.out x hx)), mp, mq⟩
 replace F := hI (F.out.next f1 (fun x _ h => .inr (.inr (.inr h))))
 have EN := hI (show ((k + b.log.entries.length * 5 + b.receipts.length * 3 + b.heads.length * 5 + b.sealed.leaves.peaks.length + b.sealed.taken.peaks.length : Nat) : Int) = ((k + BrkN b : Nat) : Int) by unfold BrkN; omega)
 clear mp mq f1 r0 f0 k3 R0
 obtain ⟨kk, hkk⟩ : ∃ kk, kk = k + b.log.entries.length * 5 + b.receipts.length * 3 + b.heads.length * 5 + b.sealed.leaves.peaks.length + b.sealed.taken.peaks.length := ⟨_, rfl⟩
 rw [← hkk] at EN
 rw [← hkk]
 clear hkk
 go_wp2_with fail
 go_ret
 exact ⟨by rw [EN.out]; rfl, M.out, F.out⟩
set_option maxHeartbeats 4000000 in
theorem heldBroker_row {k : Nat} {b : BrokerD} {E0 E1 E2 E3 E4 : Option Addr} {e0 e1 e2 e3 e4 : Nat} (w : World) (hM : BMk w b (.slice E0 b.log.entries.length e0) (.slice E1 b.receipts.length e1) (.slice E2 b.heads.length e2) (.slice E3 b.sealed.leaves.peaks.length e3) (.slice E4 b.sealed.taken.peaks.length e4) k) (hl : BLen b) (hk : k ≤ 100000) :
 Calls Tryz.prog 29 #[.agg #[.int .i64 b.width, .slice E0 b.log.entries.length e0, .slice E1 b.receipts.length e1, .slice E2 b.heads.length e2, .int .i64 b.sealed.leaves.size, .slice E3 b.sealed.leaves.peaks.length e3, .int .i64 b.sealed.taken.size, .slice E4 b.sealed.taken.peaks.length e4, .int .i64 b.sealed.head.number, .int .i64 b.sealed.head.size, .string b.sealed.head.root, .int .i64 b.sealed.head.taken, .string b.sealed.head.takenRoot], .int .i64 (k : Int)] w fun e w' => e = .returned (.int .i64 ((k + BrkN b : Nat) : Int)) ∧ Ext w w' := by
 obtain ⟨le, lr, lh, lp, lq⟩ := hl
 have K0 := Blk.new w 59 #[.int .i64 b.width, .slice E0 b.log.entries.length e0, .slice E1 b.receipts.length e1, .slice E2 b.heads.length e2, .int .i64 b.sealed.leaves.size, .slice E3 b.sealed.leaves.peaks.length e3, .int .i64 b.sealed.taken.size, .slice E4 b.sealed.taken.peaks.length e4, .int .i64 b.sealed.head.number, .int .i64 b.sealed.head.size, .string b.sealed.head.root, .int .i64 b.sealed.head.taken, .string b.sealed.head.takenRoot]
 have X0 := hI (Ext.new (Below.refl w.heap.size w) (.cells #[.int .i64 b.width, .slice E0 b.log.entries.length e0, .slice E1 b.receipts.length e1, .slice E2 b.heads.length e2, .int .i64 b.sealed.leaves.size, .slice E3 b.sealed.leaves.peaks.length e3, .int .i64 b.sealed.taken.size, .slice E4 b.sealed.taken.peaks.length e4, .int .i64 b.sealed.head.number, .int .i64 b.sealed.head.size, .string b.sealed.head.root, .int .i64 b.sealed.head.taken, .string b.sealed.head.takenRoot] 59))
 have M := hI hM; clear hM
 have q1 : (0 : Int) ≤ ((k + b.log.entries.length * 5 : Nat) : Int) := by omega
 have q2 : (0 : Int) ≤ ((k + b.log.entries.length * 5 + b.receipts.length * 3 : Nat) : Int) := by omega
 have q3 : (0 : Int) ≤ ((k + b.log.entries.length * 5 + b.receipts.length * 3 + b.heads.length * 5 : Nat) : Int) := by omega
 have q4 : (0 : Int) ≤ ((k + b.log.entries.length * 5 + b.receipts.length * 3 + b.heads.length * 5 + b.sealed.leaves.peaks.length + b.sealed.taken.peaks.length : Nat) : Int) := by omega
 obtain ⟨r0, f0⟩ := K0.rules
 go_enter Tryz.func29, Tryz.ntmps29
 go_wp2_with fail
 refine (heldLog_row (k := k) _ (M.out.e.ext X0.out) (by omega) (by omega)).mono ?_
 rintro e w1 ⟨rfl, h1⟩
 have he := X0.out.next h1; have k0 := K0.ext h1
 clear h1 r0 f0 K0 X0
 obtain ⟨r0, f0⟩ := k0.rules
 go_wp2_with fail
 refine (heldFM_Receipt (M.out.r.ext he) (by omega) (by omega)).mono ?_
 rintro e w2 ⟨rfl, h1⟩
 replace he := he.next h1; replace k0 := k0.ext h1
 clear h1 r0 f0
 obtain ⟨r0, f0⟩ := k0.rules
 go_wp2_with fail
 refine (heldFM_Head (M.out.h.ext he) (by omega) (by omega)).mono ?_
 rintro e w3 ⟨rfl, h1⟩
 replace he := he.next h1; replace k0 := k0.ext h1
 clear h1 r0 f0
 obtain ⟨r0, f0⟩ := k0.rules
 have R0 : Hid (w3.rangeAt w.heap.size 4 [.int .i64 b.sealed.leaves.size, .slice E3 b.sealed.leaves.peaks.length e3, .int .i64 b.sealed.taken.size, .slice E4 b.sealed.taken.peaks.length e4, .int .i64 b.sealed.head.number, .int .i64 b.sealed.head.size, .string b.sealed.head.root, .int .i64 b.sealed.head.taken, .string b.sealed.head.takenRoot]) := hI (fun j v hv => by
  rw [k0.cell]
  have hj : j < 9 := by have := (List.getElem?_eq_some_iff.1 hv).1; simpa using this
  match j, hj, hv with
  | 0, _, hv => exact hv
  | 1, _, hv => exact hv
  | 2, _, hv => exact hv
  | 3, _, hv => exact hv
  | 4, _, hv => exact hv
  | 5, _, hv => exact hv
  | 6, _, hv => exact hv
  | 7, _, hv => exact hv
  | 8, _, hv => exact hv)
 go_wp2_with (refine wpList_load_mid rfl 57 _ rfl w.heap.size 4 rfl [.int .i64 b.sealed.leaves.size, .slice E3 b.sealed.leaves.peaks.length e3, .int .i64 b.sealed.taken.size, .slice E4 b.sealed.taken.peaks.length e4, .int .i64 b.sealed.head.number, .int .i64 b.sealed.head.size, .string b.sealed.head.root, .int .i64 b.sealed.head.taken, .string b.sealed.head.takenRoot] _ R0.out Tryz.underlying57 rfl (by kernel_rfl) ?_)
 refine (heldSeal_row (k := k + b.log.entries.length * 5 + b.receipts.length * 3 + b.heads.length * 5) b.sealed.leaves.size b.sealed.taken.size b.sealed.head _ (M.out.p.ext he) (M.out.q.ext he) (by omega) (by omega) (by omega)).mono ?_
 rintro e w4 ⟨rfl, h1⟩
 replace he := he.next h1
 have EN := hI (show ((k + b.log.entries.length * 5 + b.receipts.length * 3 + b.heads.length * 5 + b.sealed.leaves.peaks.length + b.sealed.taken.peaks.length : Nat) : Int) = ((k + BrkN b : Nat) : Int) by unfold BrkN; omega)
 clear h1 r0 f0 k0 R0 q1 q2 q3
 obtain ⟨kk, hkk⟩ : ∃ kk, kk = k + b.log.entries.length * 5 + b.receipts.length * 3 + b.heads.length * 5 + b.sealed.leaves.peaks.length + b.sealed.taken.peaks.length := ⟨_, rfl⟩
 rw [← hkk] at EN q4
 rw [← hkk]
 clear hkk
 go_wp2_with fail
 go_ret
 exact ⟨by rw [EN.out]; rfl, he⟩
def WriteD.lens (d : WriteD) : List Nat := [d.text.size]
theorem eqWrite_same (d : WriteD) (w : World) :
 Calls Tryz.prog 83 #[.agg #[.int .i64 d.file, .int .i64 d.at_, .string d.text], .agg #[.int .i64 d.file, .int .i64 d.at_, .string d.text]] w fun e w' => e = .returned (.bool true) ∧ Ext w w' := by
 go_enter Tryz.func83, Tryz.ntmps83
 go_wp2
 go_ret
 exact ⟨rfl, by go_grown⟩
set_option maxHeartbeats 1000000 in
theorem eqWriteS_same (A A' : Option Addr) (c c' : Nat) (l : List WriteD) (w : World) (hr : ReadsL w w.heap.size WriteD.cells 3 A l) (hr' : ReadsL w w.heap.size WriteD.cells 3 A' l) (hl : l.length ≤ 1048576) :
 Calls Tryz.prog 26 #[.slice A l.length c, .slice A' l.length c'] w fun e w' => e = .returned (.bool true) ∧ Ext w w' := by
 go_enter Tryz.func26, Tryz.ntmps26
 go_wp2
 go_loopw [5] (fun i wr => ∃ (k : Nat), k ≤ l.length ∧ i = .int .i64 k ∧ Ext w wr) (fun i _ => l.length - (intOf i).toNat)
 case atStart => exact ⟨0, Nat.zero_le _, rfl, Below.refl _ _⟩
 case round =>
  obtain ⟨k, hk, rfl, he⟩ := hrel
  by_cases hlt : k < l.length
  · obtain ⟨b, off, rfl, hb, hc⟩ := (hr.below he).at_ (k := k) hlt
    obtain ⟨b', off', rfl, hb', hc'⟩ := (hr'.below he).at_ (k := k) hlt
    obtain ⟨d, hd⟩ : ∃ d, d = l[k] := ⟨_, rfl⟩
    have hdl : l[k]? = some d := by rw [hd]; exact List.getElem?_eq_getElem hlt
    have c0 := hc 0 _ (flat_at _ 3 WriteD.cells_length l k 0 d hdl (by omega))
    have c1 := hc 1 _ (flat_at _ 3 WriteD.cells_length l k 1 d hdl (by omega))
    have c2 := hc 2 _ (flat_at _ 3 WriteD.cells_length l k 2 d hdl (by omega))
    have b0 := hc' 0 _ (flat_at _ 3 WriteD.cells_length l k 0 d hdl (by omega))
    have b1 := hc' 1 _ (flat_at _ 3 WriteD.cells_length l k 1 d hdl (by omega))
    have b2 := hc' 2 _ (flat_at _ 3 WriteD.cells_length l k 2 d hdl (by omega))
    rw [Nat.add_zero] at c0 b0
    clear hc hc' hd hdl
    go_wp2_with fail
    go_still_tail 8, (by kernel_rfl)
    change wpList _ _ _ _ _ wr.drew
    generalize hw : wr.drew = w2
    have he2 : Ext w w2 := by rw [← hw]; exact he.drew
    clear hw he
    go_wp2_with fail
    refine (eqWrite_same d _).mono ?_
    rintro e w1 ⟨rfl, h1⟩
    replace he2 := he2.next h1; clear h1 c0 c1 c2 b0 b1 b2
    go_wp2_with fail
    go_roundw
    case rel => exact ⟨k + 1, by omega, by go_num, he2⟩
    case measure => simp [intOf]; omega
  · go_wp2_with fail
    go_ret
    exact ⟨rfl, he⟩
end Go.Proofs.YtlgdghpnfclgpaaGreat

/-
  StrS; MarkS; MarkBase; MarkEntry; MarkOwnEntry; MarkReceipt; MarkOwnReceipt; MarkHead; MarkOwnHead; MarkWrite; MarkOwnWrite: No condition.
-/
import Derived.Test.YtlgdghpnfclgpaaGreatFetchP
import Derived.Test.YtlgdghpnfclgpaaGreatMem
import Derived.Test.YtlgdghpnfclgpaaGreatTypes
import Derived.Test.YtlgdghpnfclgpaaGreatAppNew
namespace Go.Proofs.YtlgdghpnfclgpaaGreat
set_option linter.unusedSimpArgs false
open Go.RowKit
set_option linter.unusedVariables false
theorem OwnS.reads {W w : World} {v : Value} {l : List ByteArray} (h : OwnS W w v l) : ∃ A c, v = .slice A l.length c ∧ Reads w w.heap.size 1 A l.length (svals l) := by
 obtain ⟨A, c, rfl, _⟩ := ownsRow_form h
 exact ⟨A, c, rfl, Reads.of_own h⟩
set_option maxHeartbeats 1000000
set_option maxRecDepth 100000
def decB : Nat → Nat → ByteArray → ByteArray
 | 0, _, t => t
 | f + 1, k, t => if k = 0 then t else decB f (k / 10) (ofInts [48 + (k : Int) % 10] ++ t)
def markB (k : Nat) : ByteArray := if k = 0 then ⟨#[109, 48]⟩ else ⟨#[109]⟩ ++ decB k k ⟨#[]⟩
theorem markText_any (n : Nat) (w : World) (hn : n ≤ 1099511627776) : Calls Tryz.prog 61 #[.int .i64 (n : Int)] w fun e w' => e = .returned (.string (markB n)) ∧ Ext w w' := by
 by_cases h0 : n = 0
 · subst h0
   go_enter Tryz.func61, Tryz.ntmps61
   go_wp2_with fail
   go_ret
   exact ⟨rfl, Below.refl _ _⟩
 have E := hU (show markB n = ⟨#[109]⟩ ++ decB n n ⟨#[]⟩ by rw [markB, if_neg h0])
 go_enter Tryz.func61, Tryz.ntmps61
 go_wp2_with fail
 go_loopw [0, 3] (fun sn st wr => ∃ (k f : Nat) (t : ByteArray), sn = .int .i64 k ∧ st = .string t ∧ k ≤ f ∧ t.size + k ≤ n ∧ Hid (decB f k t = decB n n ⟨#[]⟩) ∧ Ext w wr) (fun sn _ _ => (intOf sn).toNat)
 case atStart => exact ⟨n, n, ⟨#[]⟩, rfl, rfl, Nat.le_refl _, by show 0 + n ≤ n; omega, hU rfl, Below.refl _ _⟩
 case round =>
  obtain ⟨k, f, t, rfl, rfl, hkf, hs, eq, he⟩ := hrel
  by_cases hlt : 0 < k
  · have hconv := conv_bytes [48 + (k : Int) % 10] (by intro x hx; simp only [List.mem_singleton] at hx; subst hx; omega) wr
    simp only [List.length_cons, List.length_nil, Nat.zero_add, List.map_cons, List.map_nil] at hconv
    obtain ⟨d, hd⟩ : ∃ d, d = ofInts [48 + (k : Int) % 10] := ⟨_, rfl⟩
    have hz : d.size = 1 := by rw [hd]; rfl
    rw [← hd] at hconv
    have E1 : Hid (decB (f - 1) (k / 10) (d ++ t) = decB n n ⟨#[]⟩) := hU (by
     rw [← eq.out, hd]
     obtain ⟨g, rfl⟩ : ∃ g, f = g + 1 := ⟨f - 1, by omega⟩
     rw [decB, if_neg (by omega)]; rfl)
    have E2 : (d ++ t).size + k / 10 ≤ n := by rw [ByteArray.size_append]; omega
    have n1 : ¬ 9223372036854775807 < d.size + t.size := by omega
    clear hd
    go_wp2_with fail
    go_roundw
    case rel => exact ⟨k / 10, f - 1, _, by go_num, rfl, by omega, E2, E1, he.new _⟩
    case measure => simp [intOf]; omega
  · have E1 : Hid (t = decB n n ⟨#[]⟩) := hU (by
     rw [← eq.out]
     obtain rfl : k = 0 := by omega
     cases f <;> simp [decB])
    have n1 : ¬ 9223372036854775807 < 1 + t.size := by omega
    go_wp2_with fail
    go_ret
    exact ⟨ret_str (by rw [E.out, ← E1.out]), he⟩
def setAll : Array Value → Nat → List Value → Array Value
 | cs, _, [] => cs
 | cs, o, v :: vs => setAll (cs.setIfInBounds o v) (o + 1) vs
theorem setAll_eq : ∀ (vs : List Value) (o : Nat) (cs : Array Value), o + vs.length ≤ cs.size → setAll cs o vs = (cs.toList.take o ++ vs ++ cs.toList.drop (o + vs.length)).toArray
 | [], o, cs, hs => by simp [setAll]
 | v :: vs, o, cs, hs => by
   simp only [List.length_cons] at hs
   have hl : o < (cs.toList.set o v).length := by simp; omega
   have a : (cs.toList.set o v).take (o + 1) = cs.toList.take o ++ [v] := by
    rw [List.take_succ_eq_append_getElem hl, List.take_set_of_le (Nat.le_refl _), List.getElem_set_self]
   have b : (cs.toList.set o v).drop (o + 1 + vs.length) = cs.toList.drop (o + 1 + vs.length) := List.drop_set_of_lt (by omega)
   rw [setAll, setAll_eq vs (o + 1) _ (by simp; omega), Array.toList_setIfInBounds, a, b, show o + (v :: vs).length = o + 1 + vs.length by simp; omega]
   simp
def rowAt {α : Type} (f : α → List Value) (size : Nat) (l : List α) (cs : Array Value) (k : Nat) : Array Value := ((l.take k).flatMap f ++ cs.toList.drop (k * size)).toArray
section
variable {α : Type} {f : α → List Value} {size : Nat} {l : List α} {cs : Array Value} {k : Nat}
theorem rowAt_zero : rowAt f size l cs 0 = cs := by simp [rowAt]
theorem rowAt_size (hf : ∀ a, (f a).length = size) (hZ : l.length * size ≤ cs.size) (hk : k ≤ l.length) : (rowAt f size l cs k).size = cs.size := by
 have e2 : k * size ≤ l.length * size := Nat.mul_le_mul_right _ hk
 simp only [rowAt, List.size_toArray, List.length_append, flat_len f size hf, List.length_take, List.length_drop, Array.length_toList]
 rw [Nat.min_eq_left hk]
 omega
theorem rowAt_step (hf : ∀ a, (f a).length = size) (hZ : l.length * size ≤ cs.size) (hk : k < l.length) : setAll (rowAt f size l cs k) (k * size) (f l[k]) = rowAt f size l cs (k + 1) := by
 have e2 : (k + 1) * size ≤ l.length * size := Nat.mul_le_mul_right _ hk
 have e3 := e2
 rw [Nat.succ_mul] at e2
 have hl1 : ((l.take k).flatMap f).length = k * size := by rw [flat_len f size hf, List.length_take, Nat.min_eq_left (by omega)]
 rw [setAll_eq _ _ _ (by rw [rowAt_size hf hZ (by omega), hf]; omega)]
 have e1 : (l.take (k + 1)).flatMap f = (l.take k).flatMap f ++ f l[k] := by rw [List.take_succ_eq_append_getElem hk, List.flatMap_append]; simp
 unfold rowAt
 rw [e1]
 generalize (l.take k).flatMap f = X at hl1
 have q1 : (X ++ cs.toList.drop (k * size)).take (k * size) = X := by rw [List.take_append_of_le_length (by omega), List.take_of_length_le (by omega)]
 have q2 : (X ++ cs.toList.drop (k * size)).drop (k * size + size) = cs.toList.drop ((k + 1) * size) := by
  rw [List.drop_append, List.drop_eq_nil_of_le (by omega), List.nil_append, List.drop_drop, hl1, show k * size + (k * size + size - k * size) = (k + 1) * size by rw [Nat.succ_mul]; omega]
 simp only [hf, q1, q2]
theorem rowAt_reads (hf : ∀ a, (f a).length = size) {w : World} {g t : Nat} (h : Blk w g t (rowAt f size l cs l.length)) : ReadsL w w.heap.size f size (some ⟨g, 0, none⟩) l := by
 refine ⟨flat_len f size hf l, fun _ => ⟨g, 0, rfl, h.lt, fun j u hu => ?_⟩⟩
 rw [Nat.zero_add, h.cell]
 have hj : j < (l.flatMap f).length := (List.getElem?_eq_some_iff.1 hu).1
 simp only [rowAt, List.take_length, List.getElem?_toArray]
 rw [List.getElem?_append_left hj]
 exact hu
end
theorem Blk.has {w : World} {g t : Nat} {cs : Array Value} (h : Blk w g t cs) {i : Nat} (hi : i < cs.size) : ∃ v, w.cell? ⟨g, i, none⟩ = some v := ⟨_, by rw [h.cell]; exact Array.getElem?_eq_getElem hi⟩
theorem markText_int (x : Int) (n : Nat) (hx : x = (n : Int)) (w : World) (hn : n ≤ 1099511627776) : Calls Tryz.prog 61 #[.int .i64 x] w fun e w' => e = .returned (.string (markB n)) ∧ Ext w w' := by
 subst hx; exact markText_any n w hn
set_option maxHeartbeats 4000000
def EntryD.mk_ (k : Nat) : EntryD := ⟨markB k, ((k + 1 : Nat) : Int), ((k + 2 : Nat) : Int), markB (k + 3), markB (k + 4)⟩
def EntryD.mkL (k n : Nat) : List EntryD := (List.range n).map (fun i => EntryD.mk_ (k + i * 5))
theorem EntryD.mkL_len (k n : Nat) : (EntryD.mkL k n).length = n := by simp [EntryD.mkL]
theorem EntryD.mkL_at (k n i : Nat) (h : i < (EntryD.mkL k n).length) : (EntryD.mkL k n)[i] = EntryD.mk_ (k + i * 5) := by simp [EntryD.mkL]
theorem markEntryS_any (g n c k : Nat) (cs : Array Value) (w : World) (hB : Blk w g 46 cs) (hn : n * 5 ≤ cs.size) (hl : n ≤ 1048576) (hk : k ≤ 1099511627) :
 Calls Tryz.prog 116 #[.slice (some ⟨g, 0, none⟩) n c, .int .i64 (k : Int)] w fun e w' => e = .returned (.int .i64 ((k + n * 5 : Nat) : Int)) ∧ Blk w' g 46 (rowAt EntryD.cells 5 (EntryD.mkL k n) cs n) ∧ ExtBut g w w' := by
 have Hn := hU hn
 have Hs := hU (fun j (hj : j ≤ n) => rowAt_size (k := j) EntryD.cells_length (l := EntryD.mkL k n) (cs := cs) (by rw [EntryD.mkL_len]; exact hn) (by rw [EntryD.mkL_len]; exact hj))
 have Hst := hU (fun j (hj : j < n) => rowAt_step (k := j) EntryD.cells_length (l := EntryD.mkL k n) (cs := cs) (by rw [EntryD.mkL_len]; exact hn) (by rw [EntryD.mkL_len]; exact hj))
 clear hn
 have B0 := hU (show Blk w g 46 (rowAt EntryD.cells 5 (EntryD.mkL k n) cs 0) by rw [rowAt_zero]; exact hB)
 clear hB
 go_enter Tryz.func116, Tryz.ntmps116
 go_wp2_with fail
 go_loopw [1, 5] (fun q i wr => ∃ (j : Nat), j ≤ n ∧ i = .int .i64 j ∧ q = .int .i64 ((k + j * 5 : Nat) : Int) ∧ Blk wr g 46 (rowAt EntryD.cells 5 (EntryD.mkL k n) cs j) ∧ ExtBut g w wr) (fun _ i _ => n - (intOf i).toNat)
 case atStart => exact ⟨0, Nat.zero_le _, rfl, by simp, B0.out, ExtBut.refl g w⟩
 case round =>
  clear B0
  obtain ⟨j, hj, rfl, rfl, hb, hx⟩ := hrel
  by_cases hlt : j < n
  case neg =>
   obtain rfl : j = n := by omega
   go_wp2_with fail
   go_ret
   exact ⟨rfl, hb, hx⟩
  have hz := Hs.out j hj
  have hn0 : j * 5 + 5 ≤ cs.size := by have := Hn.out; have := Nat.mul_le_mul_right 5 (show j + 1 ≤ n from hlt); omega
  have hkj : k + j * 5 ≤ 1099511627700 := by have := Nat.mul_le_mul_right 5 hj; omega
  generalize hM : rowAt EntryD.cells 5 (EntryD.mkL k n) cs j = M at *
  have HM := hU hM
  clear hM
  have q0 : (0 : Int) ≤ ((k + j * 5 : Nat) : Int) := by omega
  have q1 : ((k + j * 5 : Nat) : Int) ≤ 1099511627700 := by omega
  generalize hQ : k + j * 5 = Q at *
  have HQ := hU hQ
  clear hQ
  have hf := hb.frozen
  go_wp2_with fail
  refine (markText_int _ (Q + 0) (by omega) _ (by omega)).mono ?_
  rintro e w0 ⟨rfl, hx0⟩
  have hb0 := hb.ext hx0
  have hy0 := hx.next (ExtBut.of_ext hx0)
  clear hx0 hf 
  clear hb hx
  have hx := hy0; clear hy0
  obtain ⟨v0, z0⟩ := Blk.has hb0 (i := j * 5) (by (try simp only [Array.size_setIfInBounds]); rw [hz]; omega)
  have hf := hb0.frozen
  obtain ⟨v1, z1⟩ := Blk.has hb0 (i := j * 5 + 1) (by (try simp only [Array.size_setIfInBounds]); rw [hz]; omega)
  obtain ⟨v2, z2⟩ := Blk.has hb0 (i := j * 5 + 2) (by (try simp only [Array.size_setIfInBounds]); rw [hz]; omega)
  go_wp2_with fail
  refine (markText_int _ (Q + 3) (by omega) _ (by omega)).mono ?_
  rintro e w3 ⟨rfl, hx3⟩
  have hb3 := (((hb0.set_ _ _).set_ _ _).set_ _ _).ext hx3
  have hy3 := (((hx.set_ _ _).set_ _ _).set_ _ _).next (ExtBut.of_ext hx3)
  clear hx3 hf z0 z1 z2
  clear hb0 hx
  have hx := hy3; clear hy3
  obtain ⟨v3, z3⟩ := Blk.has hb3 (i := j * 5 + 3) (by (try simp only [Array.size_setIfInBounds]); rw [hz]; omega)
  have hf := hb3.frozen
  go_wp2_with fail
  refine (markText_int _ (Q + 4) (by omega) _ (by omega)).mono ?_
  rintro e w4 ⟨rfl, hx4⟩
  have hb4 := (hb3.set_ _ _).ext hx4
  have hy4 := (hx.set_ _ _).next (ExtBut.of_ext hx4)
  clear hx4 hf z3
  clear hb3 hx
  have hx := hy4; clear hy4
  obtain ⟨v4, z4⟩ := Blk.has hb4 (i := j * 5 + 4) (by (try simp only [Array.size_setIfInBounds]); rw [hz]; omega)
  have hf := hb4.frozen
  have hfin := (hb4.set_ (j * 5 + 4) (.string (markB (Q + 4))))
  have HX := hU (hx.set_ (j * 5 + 4) (.string (markB (Q + 4))))
  have hset := Hst.out j hlt
  rw [HM.out, EntryD.mkL_at, HQ.out] at hset
  have HB : Hid (Blk _ g 46 (rowAt EntryD.cells 5 (EntryD.mkL k n) cs (j + 1))) := hU (by rw [← hset]; exact hfin)
  clear hset hfin hb4 hx hz
  go_wp2_with fail
  go_roundw
  case rel => exact ⟨j + 1, by omega, by go_num, congrArg (Value.int .i64) (by have := HQ.out; omega), HB.out, HX.out⟩
  case measure => simp [intOf]; omega
theorem markEntryS_nil (k : Int) (w : World) : Calls Tryz.prog 116 #[.slice none 0 0, .int .i64 k] w fun e w' => e = .returned (.int .i64 k) ∧ Ext w w' := by
 go_enter Tryz.func116, Tryz.ntmps116
 go_wp2_with fail
 refine wp_loop_rounds 1 ?_
 rw [rounds_succ]
 go_wp2_with fail
 go_ret
 exact ⟨rfl, Below.refl _ _⟩
def ReceiptD.mk_ (k : Nat) : ReceiptD := ⟨markB k, markB (k + 1), ((k + 2 : Nat) : Int)⟩
def ReceiptD.mkL (k n : Nat) : List ReceiptD := (List.range n).map (fun i => ReceiptD.mk_ (k + i * 3))
theorem ReceiptD.mkL_len (k n : Nat) : (ReceiptD.mkL k n).length = n := by simp [ReceiptD.mkL]
theorem ReceiptD.mkL_at (k n i : Nat) (h : i < (ReceiptD.mkL k n).length) : (ReceiptD.mkL k n)[i] = ReceiptD.mk_ (k + i * 3) := by simp [ReceiptD.mkL]
theorem markReceiptS_any (g n c k : Nat) (cs : Array Value) (w : World) (hB : Blk w g 77 cs) (hn : n * 3 ≤ cs.size) (hl : n ≤ 1048576) (hk : k ≤ 1099511627) :
 Calls Tryz.prog 58 #[.slice (some ⟨g, 0, none⟩) n c, .int .i64 (k : Int)] w fun e w' => e = .returned (.int .i64 ((k + n * 3 : Nat) : Int)) ∧ Blk w' g 77 (rowAt ReceiptD.cells 3 (ReceiptD.mkL k n) cs n) ∧ ExtBut g w w' := by
 have Hn := hU hn
 have Hs := hU (fun j (hj : j ≤ n) => rowAt_size (k := j) ReceiptD.cells_length (l := ReceiptD.mkL k n) (cs := cs) (by rw [ReceiptD.mkL_len]; exact hn) (by rw [ReceiptD.mkL_len]; exact hj))
 have Hst := hU (fun j (hj : j < n) => rowAt_step (k := j) ReceiptD.cells_length (l := ReceiptD.mkL k n) (cs := cs) (by rw [ReceiptD.mkL_len]; exact hn) (by rw [ReceiptD.mkL_len]; exact hj))
 clear hn
 have B0 := hU (show Blk w g 77 (rowAt ReceiptD.cells 3 (ReceiptD.mkL k n) cs 0) by rw [rowAt_zero]; exact hB)
 clear hB
 go_enter Tryz.func58, Tryz.ntmps58
 go_wp2_with fail
 go_loopw [1, 5] (fun q i wr => ∃ (j : Nat), j ≤ n ∧ i = .int .i64 j ∧ q = .int .i64 ((k + j * 3 : Nat) : Int) ∧ Blk wr g 77 (rowAt ReceiptD.cells 3 (ReceiptD.mkL k n) cs j) ∧ ExtBut g w wr) (fun _ i _ => n - (intOf i).toNat)
 case atStart => exact ⟨0, Nat.zero_le _, rfl, by simp, B0.out, ExtBut.refl g w⟩
 case round =>
  clear B0
  obtain ⟨j, hj, rfl, rfl, hb, hx⟩ := hrel
  by_cases hlt : j < n
  case neg =>
   obtain rfl : j = n := by omega
   go_wp2_with fail
   go_ret
   exact ⟨rfl, hb, hx⟩
  have hz := Hs.out j hj
  have hn0 : j * 3 + 3 ≤ cs.size := by have := Hn.out; have := Nat.mul_le_mul_right 3 (show j + 1 ≤ n from hlt); omega
  have hkj : k + j * 3 ≤ 1099511627700 := by have := Nat.mul_le_mul_right 3 hj; omega
  generalize hM : rowAt ReceiptD.cells 3 (ReceiptD.mkL k n) cs j = M at *
  have HM := hU hM
  clear hM
  have q0 : (0 : Int) ≤ ((k + j * 3 : Nat) : Int) := by omega
  have q1 : ((k + j * 3 : Nat) : Int) ≤ 1099511627700 := by omega
  generalize hQ : k + j * 3 = Q at *
  have HQ := hU hQ
  clear hQ
  have hf := hb.frozen
  go_wp2_with fail
  refine (markText_int _ (Q + 0) (by omega) _ (by omega)).mono ?_
  rintro e w0 ⟨rfl, hx0⟩
  have hb0 := hb.ext hx0
  have hy0 := hx.next (ExtBut.of_ext hx0)
  clear hx0 hf 
  clear hb hx
  have hx := hy0; clear hy0
  obtain ⟨v0, z0⟩ := Blk.has hb0 (i := j * 3) (by (try simp only [Array.size_setIfInBounds]); rw [hz]; omega)
  have hf := hb0.frozen
  go_wp2_with fail
  refine (markText_int _ (Q + 1) (by omega) _ (by omega)).mono ?_
  rintro e w1 ⟨rfl, hx1⟩
  have hb1 := (hb0.set_ _ _).ext hx1
  have hy1 := (hx.set_ _ _).next (ExtBut.of_ext hx1)
  clear hx1 hf z0
  clear hb0 hx
  have hx := hy1; clear hy1
  obtain ⟨v1, z1⟩ := Blk.has hb1 (i := j * 3 + 1) (by (try simp only [Array.size_setIfInBounds]); rw [hz]; omega)
  have hf := hb1.frozen
  obtain ⟨v2, z2⟩ := Blk.has hb1 (i := j * 3 + 2) (by (try simp only [Array.size_setIfInBounds]); rw [hz]; omega)
  have hfin := ((hb1.set_ (j * 3 + 1) (.string (markB (Q + 1)))).set_ (j * 3 + 2) (.int .i64 ((Q : Int) + 2)))
  have HX := hU ((hx.set_ (j * 3 + 1) (.string (markB (Q + 1)))).set_ (j * 3 + 2) (.int .i64 ((Q : Int) + 2)))
  have hset := Hst.out j hlt
  rw [HM.out, ReceiptD.mkL_at, HQ.out] at hset
  have HB : Hid (Blk _ g 77 (rowAt ReceiptD.cells 3 (ReceiptD.mkL k n) cs (j + 1))) := hU (by rw [← hset]; exact hfin)
  clear hset hfin hb1 hx hz
  go_wp2_with fail
  go_roundw
  case rel => exact ⟨j + 1, by omega, by go_num, congrArg (Value.int .i64) (by have := HQ.out; omega), HB.out, HX.out⟩
  case measure => simp [intOf]; omega
theorem markReceiptS_nil (k : Int) (w : World) : Calls Tryz.prog 58 #[.slice none 0 0, .int .i64 k] w fun e w' => e = .returned (.int .i64 k) ∧ Ext w w' := by
 go_enter Tryz.func58, Tryz.ntmps58
 go_wp2_with fail
 refine wp_loop_rounds 1 ?_
 rw [rounds_succ]
 go_wp2_with fail
 go_ret
 exact ⟨rfl, Below.refl _ _⟩
def HeadD.mk_ (k : Nat) : HeadD := ⟨(k : Int), ((k + 1 : Nat) : Int), markB (k + 2), ((k + 3 : Nat) : Int), markB (k + 4)⟩
def HeadD.mkL (k n : Nat) : List HeadD := (List.range n).map (fun i => HeadD.mk_ (k + i * 5))
theorem HeadD.mkL_len (k n : Nat) : (HeadD.mkL k n).length = n := by simp [HeadD.mkL]
theorem HeadD.mkL_at (k n i : Nat) (h : i < (HeadD.mkL k n).length) : (HeadD.mkL k n)[i] = HeadD.mk_ (k + i * 5) := by simp [HeadD.mkL]
theorem markHeadS_any (g n c k : Nat) (cs : Array Value) (w : World) (hB : Blk w g 55 cs) (hn : n * 5 ≤ cs.size) (hl : n ≤ 1048576) (hk : k ≤ 1099511627) :
 Calls Tryz.prog 59 #[.slice (some ⟨g, 0, none⟩) n c, .int .i64 (k : Int)] w fun e w' => e = .returned (.int .i64 ((k + n * 5 : Nat) : Int)) ∧ Blk w' g 55 (rowAt HeadD.cells 5 (HeadD.mkL k n) cs n) ∧ ExtBut g w w' := by
 have Hn := hU hn
 have Hs := hU (fun j (hj : j ≤ n) => rowAt_size (k := j) HeadD.cells_length (l := HeadD.mkL k n) (cs := cs) (by rw [HeadD.mkL_len]; exact hn) (by rw [HeadD.mkL_len]; exact hj))
 have Hst := hU (fun j (hj : j < n) => rowAt_step (k := j) HeadD.cells_length (l := HeadD.mkL k n) (cs := cs) (by rw [HeadD.mkL_len]; exact hn) (by rw [HeadD.mkL_len]; exact hj))
 clear hn
 have B0 := hU (show Blk w g 55 (rowAt HeadD.cells 5 (HeadD.mkL k n) cs 0) by rw [rowAt_zero]; exact hB)
 clear hB
 go_enter Tryz.func59, Tryz.ntmps59
 go_wp2_with fail
 go_loopw [1, 5] (fun q i wr => ∃ (j : Nat), j ≤ n ∧ i = .int .i64 j ∧ q = .int .i64 ((k + j * 5 : Nat) : Int) ∧ Blk wr g 55 (rowAt HeadD.cells 5 (HeadD.mkL k n) cs j) ∧ ExtBut g w wr) (fun _ i _ => n - (intOf i).toNat)
 case atStart => exact ⟨0, Nat.zero_le _, rfl, by simp, B0.out, ExtBut.refl g w⟩
 case round =>
  clear B0
  obtain ⟨j, hj, rfl, rfl, hb, hx⟩ := hrel
  by_cases hlt : j < n
  case neg =>
   obtain rfl : j = n := by omega
   go_wp2_with fail
   go_ret
   exact ⟨rfl, hb, hx⟩
  have hz := Hs.out j hj
  have hn0 : j * 5 + 5 ≤ cs.size := by have := Hn.out; have := Nat.mul_le_mul_right 5 (show j + 1 ≤ n from hlt); omega
  have hkj : k + j * 5 ≤ 1099511627700 := by have := Nat.mul_le_mul_right 5 hj; omega
  generalize hM : rowAt HeadD.cells 5 (HeadD.mkL k n) cs j = M at *
  have HM := hU hM
  clear hM
  have q0 : (0 : Int) ≤ ((k + j * 5 : Nat) : Int) := by omega
  have q1 : ((k + j * 5 : Nat) : Int) ≤ 1099511627700 := by omega
  generalize hQ : k + j * 5 = Q at *
  have HQ := hU hQ
  clear hQ
  obtain ⟨v0, z0⟩ := Blk.has hb (i := j * 5) (by rw [hz]; omega)
  obtain ⟨v1, z1⟩ := Blk.has hb (i := j * 5 + 1) (by rw [hz]; omega)
  have hf := hb.frozen
  go_wp2_with fail
  refine (markText_int _ (Q + 2) (by omega) _ (by omega)).mono ?_
  rintro e w2 ⟨rfl, hx2⟩
  have hb2 := ((hb.set_ _ _).set_ _ _).ext hx2
  have hy2 := ((hx.set_ _ _).set_ _ _).next (ExtBut.of_ext hx2)
  clear hx2 hf z0 z1
  clear hb hx
  have hx := hy2; clear hy2
  obtain ⟨v2, z2⟩ := Blk.has hb2 (i := j * 5 + 2) (by (try simp only [Array.size_setIfInBounds]); rw [hz]; omega)
  have hf := hb2.frozen
  obtain ⟨v3, z3⟩ := Blk.has hb2 (i := j * 5 + 3) (by (try simp only [Array.size_setIfInBounds]); rw [hz]; omega)
  go_wp2_with fail
  refine (markText_int _ (Q + 4) (by omega) _ (by omega)).mono ?_
  rintro e w4 ⟨rfl, hx4⟩
  have hb4 := ((hb2.set_ _ _).set_ _ _).ext hx4
  have hy4 := ((hx.set_ _ _).set_ _ _).next (ExtBut.of_ext hx4)
  clear hx4 hf z2 z3
  clear hb2 hx
  have hx := hy4; clear hy4
  obtain ⟨v4, z4⟩ := Blk.has hb4 (i := j * 5 + 4) (by (try simp only [Array.size_setIfInBounds]); rw [hz]; omega)
  have hf := hb4.frozen
  have hfin := (hb4.set_ (j * 5 + 4) (.string (markB (Q + 4))))
  have HX := hU (hx.set_ (j * 5 + 4) (.string (markB (Q + 4))))
  have hset := Hst.out j hlt
  rw [HM.out, HeadD.mkL_at, HQ.out] at hset
  have HB : Hid (Blk _ g 55 (rowAt HeadD.cells 5 (HeadD.mkL k n) cs (j + 1))) := hU (by rw [← hset]; exact hfin)
  clear hset hfin hb4 hx hz
  go_wp2_with fail
  go_roundw
  case rel => exact ⟨j + 1, by omega, by go_num, congrArg (Value.int .i64) (by have := HQ.out; omega), HB.out, HX.out⟩
  case measure => simp [intOf]; omega
theorem markHeadS_nil (k : Int) (w : World) : Calls Tryz.prog 59 #[.slice none 0 0, .int .i64 k] w fun e w' => e = .returned (.int .i64 k) ∧ Ext w w' := by
 go_enter Tryz.func59, Tryz.ntmps59
 go_wp2_with fail
 refine wp_loop_rounds 1 ?_
 rw [rounds_succ]
 go_wp2_with fail
 go_ret
 exact ⟨rfl, Below.refl _ _⟩
def WriteD.mk_ (k : Nat) : WriteD := ⟨(k : Int), ((k + 1 : Nat) : Int), markB (k + 2)⟩
def WriteD.mkL (k n : Nat) : List WriteD := (List.range n).map (fun i => WriteD.mk_ (k + i * 3))
theorem WriteD.mkL_len (k n : Nat) : (WriteD.mkL k n).length = n := by simp [WriteD.mkL]
theorem WriteD.mkL_at (k n i : Nat) (h : i < (WriteD.mkL k n).length) : (WriteD.mkL k n)[i] = WriteD.mk_ (k + i * 3) := by simp [WriteD.mkL]

end Go.Proofs.YtlgdghpnfclgpaaGreat

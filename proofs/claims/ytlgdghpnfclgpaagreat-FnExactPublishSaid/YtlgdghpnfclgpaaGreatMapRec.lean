/-
  Hashes; SameB; Reopen0; ReadHd; Reopen1; MapStr; MapRec: No condition.
-/
import Derived.Test.YtlgdghpnfclgpaaGreatBroker0
import Derived.Test.YtlgdghpnfclgpaaGreatDisk0
import Derived.Test.YtlgdghpnfclgpaaGreatFramesLaw
import Derived.Test.YtlgdghpnfclgpaaGreatBunch
import Derived.BigQuiet
import Derived.Test.YtlgdghpnfclgpaaGreatPubP
import Derived.Test.YtlgdghpnfclgpaaGreatHashTop
import Derived.Maps.OwnSet
import Derived.Test.YtlgdghpnfclgpaaGreatLeaf
import Derived.Test.YtlgdghpnfclgpaaGreatHeadOps
import Derived.DeepKeys4
namespace Go.Proofs.YtlgdghpnfclgpaaGreat
set_option maxHeartbeats 2000000
set_option maxRecDepth 100000
set_option linter.unusedSimpArgs false
open Go.RowKit
set_option linter.unusedVariables false
theorem rec_at {l : List ReceiptD} {w : World} {b off : Nat} {k : Nat} {d : ReceiptD} (hc : ∀ j u, (l.flatMap ReceiptD.cells)[k * 3 + j]? = some u → w.cell? ⟨b, off + k * 3 + j, none⟩ = some u) (hd : l[k]? = some d) :
 w.cell? ⟨b, off + k * 3, none⟩ = some (.string d.reader) ∧ w.cell? ⟨b, off + k * 3 + 1, none⟩ = some (.string d.topic) ∧ w.cell? ⟨b, off + k * 3 + 2, none⟩ = some (.int .i64 d.index) :=
 ⟨hc 0 _ (flat_at _ 3 ReceiptD.cells_length l k 0 d hd (by omega)), hc 1 _ (flat_at _ 3 ReceiptD.cells_length l k 1 d hd (by omega)), hc 2 _ (flat_at _ 3 ReceiptD.cells_length l k 2 d hd (by omega))⟩
theorem hashesOf_any (n : Int) (A : Option Addr) (c : Nat) (l : List EntryD) (w : World) (hr : SlF AnyB EntryD.cells 5 w A l c) (hok : ∀ d ∈ l, d.Ok) (hl : l.length ≤ 1048576) :
 Calls Tryz.prog 145 #[.int .i64 n, .agg #[.slice A l.length c]] w fun e w' => ∃ v, e = .returned v ∧ w'.ownsRow w.heap.size 9 1 v l.length ((l.map (leafH n)).flatMap sone) ∧ Ext w w' := by
 obtain ⟨i0, hi, hz0, hz1, hz2⟩ := info_parts info_string
 have HR := hU hr
 have Hok := hU hok
 have He := hU (Ext.new (Below.refl w.heap.size w) (.cells #[.slice A l.length c] 51))
 clear hr hok
 go_enter Tryz.func145, Tryz.ntmps145
 go_wp2_with fail
 go_loopw [5, 13] (fun v i wr => ∃ k : Nat, k ≤ l.length ∧ i = .int .i64 k ∧ wr.ownsRow w.heap.size 9 1 v k (((l.take k).map (leafH n)).flatMap sone) ∧ Ext w wr) (fun _ i _ => l.length - (intOf i).toNat)
 case atStart => exact ⟨0, Nat.zero_le _, rfl, World.ownsRow_nil _ _ _ _, He.out⟩
 case round =>
  clear He
  obtain ⟨k, hk, rfl, hown, he⟩ := hrel
  obtain ⟨V, cv, rfl, hnc⟩ := ownsRow_form hown
  have KO := hU hown; clear hown
  by_cases hlt : k < l.length
  case neg =>
   obtain rfl : k = l.length := by omega
   go_wp2_with fail
   go_ret
   exact ⟨_, rfl, by have := KO.out; rwa [List.take_length] at this, he⟩
  obtain ⟨b, off, rfl, hb, hc⟩ := Reads.at_ (HR.out.ext he).reads (k := k) hlt
  obtain ⟨d, hd⟩ : ∃ d, d = l[k] := ⟨_, rfl⟩
  have hdl : l[k]? = some d := by rw [hd]; exact List.getElem?_eq_getElem hlt
  have hdo := Hok.out d (List.mem_of_getElem? hdl)
  obtain ⟨c0, c1, c2, c3, c4⟩ := entry_at hc hdl
  have HDO := hU hdo; have Hdl := hU hdl
  clear hc hd hdl hdo
  go_wp2_with fail
  refine (implLeafHash_any n d _ HDO.out).mono ?_
  rintro e w1 ⟨rfl, h1⟩
  have h2 : Ext wr w1 := by first | exact h1 | exact Ext.next (Ext.new (Below.refl wr.heap.size wr) _) h1
  replace he := he.next h2; replace KO := hU (ownsRow_ext KO.out h2)
  clear h1 h2 c0 c1 c2 c3 c4
  have hw1 := he.size
  obtain ⟨x, hx⟩ : ∃ x, x = leafH n d := ⟨_, rfl⟩
  rw [← hx]
  have HX := hU hx; clear hx
  go_wp2_with (at_builtin; refine wpList_append_moved _ rfl _ _ 22 rfl w.heap.size 9 i0 _ 1 16 Tryz.underlying22 hi hz0 hz1 hz2 rfl (by decide) _ _ _ rfl (KO.out.alloc _) ⟨w1.heap.size, 0, none⟩ 1 1 [.string x] rfl rfl ?c1 ?c2 ?c3 ?c4 ?c5 ?_)
  case c1 => exact (Blk.new w1 9 #[.string x]).adds
  case c2 => intro u hu; simp at hu; subst hu; rfl
  case c3 => unfold maxLen; omega
  case c4 => omega
  case c5 => simp; omega
  intro v' w2 hown' hfrm hmv
  have L0 := hU KO.out.lt
  have he2 : Ext w w2 := hfrm.toExt (he.new _) (fun y hy e => by have := (L0.out _ e).1; omega)
  obtain ⟨hkl, hkd⟩ := List.getElem?_eq_some_iff.1 Hdl.out
  have e2 : ((l.take k).map (leafH n)).flatMap sone ++ [.string x] = ((l.take (k + 1)).map (leafH n)).flatMap sone := by rw [List.take_succ_eq_append_getElem hkl, hkd, HX.out]; simp [sone]
  have O2 := hU (show w2.ownsRow w.heap.size 9 1 v' (k + 1) (((l.take (k + 1)).map (leafH n)).flatMap sone) by rw [← e2, List.map_take]; exact hown')
  clear hown' hfrm hmv L0 hkd e2 KO he
  go_wp2_with fail
  go_roundw
  case rel => exact ⟨k + 1, by omega, by go_num, O2.out, he2⟩
  case measure => simp [intOf]; omega
theorem l09Hashes_any (n : Int) (A : Option Addr) (c : Nat) (l : List EntryD) (w : World) (hr : SlF AnyB EntryD.cells 5 w A l c) (hok : ∀ d ∈ l, d.Ok) (hl : l.length ≤ 1048576) :
 Calls Tryz.prog 72 #[.int .i64 n, .slice A l.length c] w fun e w' => ∃ v, e = .returned v ∧ w'.ownsRow w.heap.size 9 1 v l.length ((l.map (leafH n)).flatMap sone) ∧ Ext w w' := by
 obtain ⟨i0, hi, hz0, hz1, hz2⟩ := info_parts info_string
 have HR := hU hr
 have Hok := hU hok
 have He := hU (Ext.new (Below.refl w.heap.size w) (.cells #[] 9))
 have OE := hU (ownsRow_empty w 9 1)
 clear hr hok
 go_enter Tryz.func72, Tryz.ntmps72
 go_wp2_with fail
 go_loopw [5, 6] (fun v i wr => ∃ k : Nat, k ≤ l.length ∧ i = .int .i64 k ∧ wr.ownsRow w.heap.size 9 1 v k (((l.take k).map (leafH n)).flatMap sone) ∧ Ext w wr) (fun _ i _ => l.length - (intOf i).toNat)
 case atStart => exact ⟨0, Nat.zero_le _, rfl, OE.out, He.out⟩
 case round =>
  clear He
  obtain ⟨k, hk, rfl, hown, he⟩ := hrel
  obtain ⟨V, cv, rfl, hnc⟩ := ownsRow_form hown
  have KO := hU hown; clear hown
  by_cases hlt : k < l.length
  case neg =>
   obtain rfl : k = l.length := by omega
   go_wp2_with fail
   go_ret
   exact ⟨_, rfl, by have := KO.out; rwa [List.take_length] at this, he⟩
  obtain ⟨b, off, rfl, hb, hc⟩ := Reads.at_ (HR.out.ext he).reads (k := k) hlt
  obtain ⟨d, hd⟩ : ∃ d, d = l[k] := ⟨_, rfl⟩
  have hdl : l[k]? = some d := by rw [hd]; exact List.getElem?_eq_getElem hlt
  have hdo := Hok.out d (List.mem_of_getElem? hdl)
  obtain ⟨c0, c1, c2, c3, c4⟩ := entry_at hc hdl
  have HDO := hU hdo; have Hdl := hU hdl
  clear hc hd hdl hdo
  go_wp2_with fail
  refine (specLeafHash_any n d _ HDO.out).mono ?_
  rintro e w1 ⟨rfl, h1⟩
  have h2 : Ext wr w1 := by first | exact h1 | exact Ext.next (Ext.new (Below.refl wr.heap.size wr) _) h1
  replace he := he.next h2; replace KO := hU (ownsRow_ext KO.out h2)
  clear h1 h2 c0 c1 c2 c3 c4
  have hw1 := he.size
  obtain ⟨x, hx⟩ : ∃ x, x = leafH n d := ⟨_, rfl⟩
  rw [← hx]
  have HX := hU hx; clear hx
  go_wp2_with (at_builtin; refine wpList_append_moved _ rfl _ _ 22 rfl w.heap.size 9 i0 _ 1 16 Tryz.underlying22 hi hz0 hz1 hz2 rfl (by decide) _ _ _ rfl (KO.out.alloc _) ⟨w1.heap.size, 0, none⟩ 1 1 [.string x] rfl rfl ?c1 ?c2 ?c3 ?c4 ?c5 ?_)
  case c1 => exact (Blk.new w1 9 #[.string x]).adds
  case c2 => intro u hu; simp at hu; subst hu; rfl
  case c3 => unfold maxLen; omega
  case c4 => omega
  case c5 => simp; omega
  intro v' w2 hown' hfrm hmv
  have L0 := hU KO.out.lt
  have he2 : Ext w w2 := hfrm.toExt (he.new _) (fun y hy e => by have := (L0.out _ e).1; omega)
  obtain ⟨hkl, hkd⟩ := List.getElem?_eq_some_iff.1 Hdl.out
  have e2 : ((l.take k).map (leafH n)).flatMap sone ++ [.string x] = ((l.take (k + 1)).map (leafH n)).flatMap sone := by rw [List.take_succ_eq_append_getElem hkl, hkd, HX.out]; simp [sone]
  have O2 := hU (show w2.ownsRow w.heap.size 9 1 v' (k + 1) (((l.take (k + 1)).map (leafH n)).flatMap sone) by rw [← e2, List.map_take]; exact hown')
  clear hown' hfrm hmv L0 hkd e2 KO he
  go_wp2_with fail
  go_roundw
  case rel => exact ⟨k + 1, by omega, by go_num, O2.out, he2⟩
  case measure => simp [intOf]; omega
theorem receiptHashes_any (n : Int) (A : Option Addr) (c : Nat) (l : List ReceiptD) (w : World) (hr : SlF AnyB ReceiptD.cells 3 w A l c) (hok : ∀ d ∈ l, d.Ok) (hl : l.length ≤ 1048576) :
 Calls Tryz.prog 146 #[.int .i64 n, .slice A l.length c] w fun e w' => ∃ v, e = .returned v ∧ w'.ownsRow w.heap.size 9 1 v l.length ((l.map (recH n)).flatMap sone) ∧ Ext w w' := by
 obtain ⟨i0, hi, hz0, hz1, hz2⟩ := info_parts info_string
 have HR := hU hr
 have Hok := hU hok
 have He := hU (Below.refl w.heap.size w)
 clear hr hok
 go_enter Tryz.func146, Tryz.ntmps146
 go_wp2_with fail
 go_loopw [5, 12] (fun v i wr => ∃ k : Nat, k ≤ l.length ∧ i = .int .i64 k ∧ wr.ownsRow w.heap.size 9 1 v k (((l.take k).map (recH n)).flatMap sone) ∧ Ext w wr) (fun _ i _ => l.length - (intOf i).toNat)
 case atStart => exact ⟨0, Nat.zero_le _, rfl, World.ownsRow_nil _ _ _ _, He.out⟩
 case round =>
  clear He
  obtain ⟨k, hk, rfl, hown, he⟩ := hrel
  obtain ⟨V, cv, rfl, hnc⟩ := ownsRow_form hown
  have KO := hU hown; clear hown
  by_cases hlt : k < l.length
  case neg =>
   obtain rfl : k = l.length := by omega
   go_wp2_with fail
   go_ret
   exact ⟨_, rfl, by have := KO.out; rwa [List.take_length] at this, he⟩
  obtain ⟨b, off, rfl, hb, hc⟩ := Reads.at_ (HR.out.ext he).reads (k := k) hlt
  obtain ⟨d, hd⟩ : ∃ d, d = l[k] := ⟨_, rfl⟩
  have hdl : l[k]? = some d := by rw [hd]; exact List.getElem?_eq_getElem hlt
  have hdo := Hok.out d (List.mem_of_getElem? hdl)
  obtain ⟨c0, c1, c2⟩ := rec_at hc hdl
  have HDO := hU hdo; have Hdl := hU hdl
  clear hc hd hdl hdo
  go_wp2_with fail
  refine (implReceiptHash_any n d _ HDO.out).mono ?_
  rintro e w1 ⟨rfl, h1⟩
  have h2 : Ext wr w1 := by first | exact h1 | exact Ext.next (Ext.new (Below.refl wr.heap.size wr) _) h1
  replace he := he.next h2; replace KO := hU (ownsRow_ext KO.out h2)
  clear h1 h2 c0 c1 c2
  have hw1 := he.size
  obtain ⟨x, hx⟩ : ∃ x, x = recH n d := ⟨_, rfl⟩
  rw [← hx]
  have HX := hU hx; clear hx
  go_wp2_with (at_builtin; refine wpList_append_moved _ rfl _ _ 22 rfl w.heap.size 9 i0 _ 1 16 Tryz.underlying22 hi hz0 hz1 hz2 rfl (by decide) _ _ _ rfl (KO.out.alloc _) ⟨w1.heap.size, 0, none⟩ 1 1 [.string x] rfl rfl ?c1 ?c2 ?c3 ?c4 ?c5 ?_)
  case c1 => exact (Blk.new w1 9 #[.string x]).adds
  case c2 => intro u hu; simp at hu; subst hu; rfl
  case c3 => unfold maxLen; omega
  case c4 => omega
  case c5 => simp; omega
  intro v' w2 hown' hfrm hmv
  have L0 := hU KO.out.lt
  have he2 : Ext w w2 := hfrm.toExt (he.new _) (fun y hy e => by have := (L0.out _ e).1; omega)
  obtain ⟨hkl, hkd⟩ := List.getElem?_eq_some_iff.1 Hdl.out
  have e2 : ((l.take k).map (recH n)).flatMap sone ++ [.string x] = ((l.take (k + 1)).map (recH n)).flatMap sone := by rw [List.take_succ_eq_append_getElem hkl, hkd, HX.out]; simp [sone]
  have O2 := hU (show w2.ownsRow w.heap.size 9 1 v' (k + 1) (((l.take (k + 1)).map (recH n)).flatMap sone) by rw [← e2, List.map_take]; exact hown')
  clear hown' hfrm hmv L0 hkd e2 KO he
  go_wp2_with fail
  go_roundw
  case rel => exact ⟨k + 1, by omega, by go_num, O2.out, he2⟩
  case measure => simp [intOf]; omega
theorem l12Taken_any (n : Int) (A : Option Addr) (c : Nat) (l : List ReceiptD) (w : World) (hr : SlF AnyB ReceiptD.cells 3 w A l c) (hok : ∀ d ∈ l, d.Ok) (hl : l.length ≤ 1048576) :
 Calls Tryz.prog 73 #[.int .i64 n, .slice A l.length c] w fun e w' => ∃ v, e = .returned v ∧ w'.ownsRow w.heap.size 9 1 v l.length ((l.map (recH n)).flatMap sone) ∧ Ext w w' := by
 obtain ⟨i0, hi, hz0, hz1, hz2⟩ := info_parts info_string
 have HR := hU hr
 have Hok := hU hok
 have He := hU (Ext.new (Below.refl w.heap.size w) (.cells #[] 9))
 have OE := hU (ownsRow_empty w 9 1)
 clear hr hok
 go_enter Tryz.func73, Tryz.ntmps73
 go_wp2_with fail
 go_loopw [5, 6] (fun v i wr => ∃ k : Nat, k ≤ l.length ∧ i = .int .i64 k ∧ wr.ownsRow w.heap.size 9 1 v k (((l.take k).map (recH n)).flatMap sone) ∧ Ext w wr) (fun _ i _ => l.length - (intOf i).toNat)
 case atStart => exact ⟨0, Nat.zero_le _, rfl, OE.out, He.out⟩
 case round =>
  clear He
  obtain ⟨k, hk, rfl, hown, he⟩ := hrel
  obtain ⟨V, cv, rfl, hnc⟩ := ownsRow_form hown
  have KO := hU hown; clear hown
  by_cases hlt : k < l.length
  case neg =>
   obtain rfl : k = l.length := by omega
   go_wp2_with fail
   go_ret
   exact ⟨_, rfl, by have := KO.out; rwa [List.take_length] at this, he⟩
  obtain ⟨b, off, rfl, hb, hc⟩ := Reads.at_ (HR.out.ext he).reads (k := k) hlt
  obtain ⟨d, hd⟩ : ∃ d, d = l[k] := ⟨_, rfl⟩
  have hdl : l[k]? = some d := by rw [hd]; exact List.getElem?_eq_getElem hlt
  have hdo := Hok.out d (List.mem_of_getElem? hdl)
  obtain ⟨c0, c1, c2⟩ := rec_at hc hdl
  have HDO := hU hdo; have Hdl := hU hdl
  clear hc hd hdl hdo
  go_wp2_with fail
  refine (specReceiptHash_any n d _ HDO.out).mono ?_
  rintro e w1 ⟨rfl, h1⟩
  have h2 : Ext wr w1 := by first | exact h1 | exact Ext.next (Ext.new (Below.refl wr.heap.size wr) _) h1
  replace he := he.next h2; replace KO := hU (ownsRow_ext KO.out h2)
  clear h1 h2 c0 c1 c2
  have hw1 := he.size
  obtain ⟨x, hx⟩ : ∃ x, x = recH n d := ⟨_, rfl⟩
  rw [← hx]
  have HX := hU hx; clear hx
  go_wp2_with (at_builtin; refine wpList_append_moved _ rfl _ _ 22 rfl w.heap.size 9 i0 _ 1 16 Tryz.underlying22 hi hz0 hz1 hz2 rfl (by decide) _ _ _ rfl (KO.out.alloc _) ⟨w1.heap.size, 0, none⟩ 1 1 [.string x] rfl rfl ?c1 ?c2 ?c3 ?c4 ?c5 ?_)
  case c1 => exact (Blk.new w1 9 #[.string x]).adds
  case c2 => intro u hu; simp at hu; subst hu; rfl
  case c3 => unfold maxLen; omega
  case c4 => omega
  case c5 => simp; omega
  intro v' w2 hown' hfrm hmv
  have L0 := hU KO.out.lt
  have he2 : Ext w w2 := hfrm.toExt (he.new _) (fun y hy e => by have := (L0.out _ e).1; omega)
  obtain ⟨hkl, hkd⟩ := List.getElem?_eq_some_iff.1 Hdl.out
  have e2 : ((l.take k).map (recH n)).flatMap sone ++ [.string x] = ((l.take (k + 1)).map (recH n)).flatMap sone := by rw [List.take_succ_eq_append_getElem hkl, hkd, HX.out]; simp [sone]
  have O2 := hU (show w2.ownsRow w.heap.size 9 1 v' (k + 1) (((l.take (k + 1)).map (recH n)).flatMap sone) by rw [← e2, List.map_take]; exact hown')
  clear hown' hfrm hmv L0 hkd e2 KO he
  go_wp2_with fail
  go_roundw
  case rel => exact ⟨k + 1, by omega, by go_num, O2.out, he2⟩
  case measure => simp [intOf]; omega
theorem peaksB_len {a b : List ByteArray} (h : a.length ≠ b.length) : peaksB a b = false := by
 cases e : peaksB a b
 · rfl
 · exact absurd (congrArg List.length (peaksB_iff.1 e)) h
theorem peaksB_at {a b : List ByteArray} {k : Nat} {x y : ByteArray} (ha : a[k]? = some x) (hb : b[k]? = some y) (h : (x.toList == y.toList) = false) : peaksB a b = false := by
 cases e : peaksB a b
 · rfl
 · have := peaksB_iff.1 e
   subst this
   rw [ha] at hb
   cases hb
   simp at h
theorem peaksB_all {a b : List ByteArray} (hl : a.length = b.length) (h : ∀ k x y, k < a.length → a[k]? = some x → b[k]? = some y → (x.toList == y.toList) = true) : peaksB a b = true := by
 rw [peaksB_iff]
 apply List.ext_getElem hl
 intro k h1 h2
 have := h k _ _ h1 (List.getElem?_eq_getElem h1) (List.getElem?_eq_getElem h2)
 exact bytes_toList.1 (by simpa using this)
theorem texts_cell {w : World} {B : Nat} {A : Option Addr} {l : List ByteArray} (hr : ReadsL w B sone 1 A l) {k : Nat} {x : ByteArray} (hx : l[k]? = some x) : ∃ b off, A = some ⟨b, off, none⟩ ∧ b < B ∧ w.cell? ⟨b, off + k, none⟩ = some (.string x) := by
 obtain ⟨b, off, e, hb, hc⟩ := Reads.at_ hr (k := k) (List.getElem?_eq_some_iff.1 hx).1
 have := hc 0 _ (flat_at _ 1 sone_length l k 0 x hx (by omega))
 rw [Nat.add_zero, Nat.mul_one] at this
 exact ⟨b, off, e, hb, this⟩
theorem slicesEqual_any (A A' : Option Addr) (c c' : Nat) (a b : List ByteArray) (w : World) (ha : ReadsL w w.heap.size sone 1 A a) (hb : ReadsL w w.heap.size sone 1 A' b) (hla : a.length ≤ 1048576) (hlb : b.length ≤ 1048576) :
 Calls Tryz.prog 219 #[.slice A a.length c, .slice A' b.length c'] w fun e w' => e = .returned (.bool (peaksB a b)) ∧ Ext w w' := by
 obtain ⟨fin, hfin⟩ : ∃ fin, fin = peaksB a b := ⟨_, rfl⟩
 rw [← hfin]
 by_cases hl : a.length = b.length
 case neg =>
  have E := hU (show fin = false by rw [hfin]; exact peaksB_len hl)
  have hl2 : ¬ ((a.length : Int) = (b.length : Int)) := by omega
  clear hfin
  go_enter Tryz.func219, Tryz.ntmps219
  go_wp2_with fail
  go_ret
  exact ⟨ret_bool E.out.symm, Below.refl w.heap.size w⟩
 have F := hU hfin
 obtain ⟨n, hn⟩ : ∃ n, n = a.length := ⟨_, rfl⟩
 have hn2 : b.length = n := by omega
 rw [← hn] at hla
 rw [← hn, hn2]
 have HN := hU hn; have HN2 := hU hn2
 clear hfin hl hn hn2 hlb
 go_enter Tryz.func219, Tryz.ntmps219
 go_wp2_with fail
 go_loopw [13] (fun i wr => ∃ k : Nat, k ≤ n ∧ i = .int .i64 k ∧ (∀ j x y, j < k → a[j]? = some x → b[j]? = some y → (x.toList == y.toList) = true) ∧ Ext w wr) (fun i _ => n - (intOf i).toNat)
 case atStart => exact ⟨0, Nat.zero_le _, rfl, fun j _ _ h => absurd h (Nat.not_lt_zero j), Below.refl w.heap.size w⟩
 case round =>
  obtain ⟨k, hk, rfl, hi, he⟩ := hrel
  have Hi := hU hi
  clear hi
  by_cases hlt : k < n
  case neg =>
   have E := hU (show fin = true by rw [F.out]; exact peaksB_all (by rw [← HN.out, HN2.out]) (fun j x y hj => Hi.out j x y (by have := HN.out; omega)))
   go_wp2_with fail
   go_ret
   exact ⟨ret_bool E.out.symm, he⟩
  obtain ⟨x, hx⟩ : ∃ x, a[k]? = some x := ⟨a[k]'(by have := HN.out; omega), List.getElem?_eq_getElem (by have := HN.out; omega)⟩
  obtain ⟨y, hy⟩ : ∃ y, b[k]? = some y := ⟨b[k]'(by have := HN2.out; omega), List.getElem?_eq_getElem (by have := HN2.out; omega)⟩
  obtain ⟨b1, o1, rfl, hb1, c1⟩ := texts_cell (ha.ext he) hx
  obtain ⟨b2, o2, rfl, hb2, c2⟩ := texts_cell (hb.ext he) hy
  have X := hU hx; have Y := hU hy
  clear hx hy ha hb
  cases q : (x.toList == y.toList)
  · have E := hU (show fin = false by rw [F.out]; exact peaksB_at X.out Y.out q)
    have q2 := nes_of_beq q
    go_wp2_with fail
    go_quiet (fail)
    go_wp2_with fail
    go_ret
    exact ⟨ret_bool E.out.symm, he.drewN _⟩
  · have E := hU (show ∀ j x y, j < k + 1 → a[j]? = some x → b[j]? = some y → (x.toList == y.toList) = true from fun j x' y' hj hx' hy' => by
     rcases Nat.lt_or_ge j k with h | h
     · exact Hi.out j x' y' h hx' hy'
     · obtain rfl : j = k := by omega
       have e1 := X.out.symm.trans hx'
       have e2 := Y.out.symm.trans hy'
       cases e1; cases e2; exact q)
    have q2 := nes_of_beq q
    go_wp2_with fail
    go_quiet (fail)
    go_wp2_with fail
    go_roundw
    case rel => exact ⟨k + 1, by omega, by go_num, E.out, he.drewN _⟩
    case measure => simp [intOf]; omega



end Go.Proofs.YtlgdghpnfclgpaaGreat
namespace Go.Proofs.YtlgdghpnfclgpaaGreat
set_option linter.unusedSimpArgs false
open Go.RowKit Go.WideMaps Go.Maps
set_option linter.unusedVariables false
theorem mapKeyed : Keyed Tryz.prog 9 := string_keyed Tryz.underlying9
theorem mapZero (w : World) : (zeroValue 3).run Tryz.prog w = .ok (.int .i64 0) w := by kernel_rfl
def skey (s : ByteArray) : Lit := .string s.data.toList
theorem skey_inj {s t : ByteArray} (h : skey s = skey t) : s = t := by
 simp only [skey, Lit.string.injEq] at h
 exact ByteArray.ext (Array.toList_inj.1 h)
def MapAt (w : World) (B n : Nat) (f : ByteArray → Option Nat) : Prop :=
 ∃ D : DataW Unit, w.ownsMap Tryz.prog 9 (plainElem Tryz.prog 3) B n D ∧ ∀ s, Maps.has D (skey s) = (f s).isSome ∧ D.atKey (skey s) (.lit (.int .i64 0)) = .lit (.int .i64 (((f s).getD 0 : Nat) : Int))
theorem MapAt.made (w : World) : MapAt (w.alloc (.map #[] 0)) w.heap.size 0 (fun _ => none) :=
 ⟨.map [], World.ownsMap_made _ _ _ _, fun s => ⟨rfl, rfl⟩⟩
theorem MapAt.lt {w : World} {B n : Nat} {f : ByteArray → Option Nat} (h : MapAt w B n f) : B < w.heap.size := by obtain ⟨D, h, _⟩ := h; exact h.lt
theorem ownsMap_ext {H : Type} {P : Program} {k : TypeId} {R : Value → Option (DataW H × List MemPlace)} {w w' : World} {B n : Nat} {D : DataW H} (h : w.ownsMap P k R B n D) (he : Ext w w') : w'.ownsMap P k R B n D := by
 have hlt := h.lt
 obtain ⟨es, clock, hb, r⟩ := h
 exact ⟨es, clock, (he.block B hlt).trans hb, r⟩
theorem MapAt.ext {w w' : World} {B n : Nat} {f : ByteArray → Option Nat} (h : MapAt w B n f) (he : Ext w w') : MapAt w' B n f := by
 obtain ⟨D, h, k⟩ := h
 exact ⟨D, ownsMap_ext h he, k⟩
theorem MapAt.mono {w : World} {B n m : Nat} {f : ByteArray → Option Nat} (h : MapAt w B n f) (hm : n ≤ m) : MapAt w B m f := by
 obtain ⟨D, h, k⟩ := h
 exact ⟨D, h.mono hm, k⟩
theorem MapAt.look {w : World} {B n : Nat} {f : ByteArray → Option Nat} (h : MapAt w B n f) (s : ByteArray) (hs : s.size ≤ maxLen) : (Instr.lookup 191 (.map (some B)) (.string s) true).run Tryz.prog w = .ok (.tuple #[.int .i64 (((f s).getD 0 : Nat) : Int), .bool (f s).isSome]) w := by
 obtain ⟨D, h, k⟩ := h
 obtain ⟨v, ps, hrun, hv⟩ := h.look_ok mapKeyed Tryz.underlying191 (mapZero w) (plainElem_int Tryz.underlying3 (by decide)) (keyOf_string_mk Tryz.underlying9 hs)
 obtain ⟨c, rfl, hc, _⟩ := plainElem_int_inv Tryz.underlying3 hv
 have h2 := (k s).2
 have h1 := (k s).1
 simp only [Prod.mk.injEq] at hc
 rw [show (Lit.string s.data.toList) = skey s from rfl] at hc hrun
 rw [hc.1] at h2
 simp only [DataW.lit.injEq, Lit.int.injEq, true_and] at h2
 rw [hrun, h1, h2]
theorem MapAt.look1 {w : World} {B n : Nat} {f : ByteArray → Option Nat} (h : MapAt w B n f) (s : ByteArray) (hs : s.size ≤ maxLen) : (Instr.lookup 191 (.map (some B)) (.string s) false).run Tryz.prog w = .ok (.int .i64 (((f s).getD 0 : Nat) : Int)) w := by
 obtain ⟨D, h, k⟩ := h
 obtain ⟨c, hrun, hc, _⟩ := h.lookup_int mapKeyed Tryz.underlying191 Tryz.underlying3 (mapZero w) (keyOf_string_mk Tryz.underlying9 hs)
 have h2 := (k s).2
 rw [show (Lit.string s.data.toList) = skey s from rfl] at hc
 rw [hc] at h2
 simp only [DataW.lit.injEq, Lit.int.injEq, true_and] at h2
 rw [hrun, h2]
def fput (f : ByteArray → Option Nat) (s : ByteArray) (m : Nat) : ByteArray → Option Nat := fun t => if t = s then some m else f t
theorem MapAt.put {w' : World} {B n m : Nat} {f : ByteArray → Option Nat} {s : ByteArray} {D : DataW Unit} (hD : ∀ s, Maps.has D (skey s) = (f s).isSome ∧ D.atKey (skey s) (.lit (.int .i64 0)) = .lit (.int .i64 (((f s).getD 0 : Nat) : Int)))
 (hm : IsMap D) (h' : w'.ownsMap Tryz.prog 9 (plainElem Tryz.prog 3) B (n + 1) (D.put (skey s) (.lit (.int .i64 (m : Int))))) : MapAt w' B (n + 1) (fput f s m) := by
 refine ⟨_, h', fun t => ?_⟩
 unfold fput
 by_cases e : t = s
 · subst e
   simp only [if_true, Option.isSome_some, Option.getD_some]
   exact ⟨has_put_same hm (show WideAt.IsKeyLit (.string _) from trivial) _, atKey_put_same hm (show WideAt.IsKeyLit (.string _) from trivial) _ _⟩
 · have hne : skey t ≠ skey s := fun h => e (skey_inj h)
   rw [if_neg e, has_put_other hne, atKey_put_other hne]
   exact hD t
theorem wpList_store_at (w : World) {ops : Array Oper} {rest : List Oper} {o : Oper} {a : Act} {Q : Exit → Act → World → Prop} (hg : o.guard = none) (m x v : Operand) (hop : o.op = Op.mapUpdate 191 m x v) (B n q : Nat) (s : ByteArray) (f : ByteArray → Option Nat)
 (hm : a.eval m = .map (some B)) (hown : MapAt w B n f) (hn : n < maxLen) (hx : a.eval x = .string s) (hv : a.eval v = .int .i64 (q : Int)) (hs : s.size ≤ maxLen) (hq : q ≤ 1099511627776)
 (hK : ∀ w', MapAt w' B (n + 1) (fput f s q) → w.grownBy w' (some B) → wpList Tryz.prog ops Q rest (a.put o.dst undef) w') : wpList Tryz.prog ops Q (o :: rest) a w := by
 obtain ⟨D, h, k⟩ := hown
 have wf : (Lit.int .i64 (q : Int)).wf = true := WalkArith.wf_i64 (by omega)
 exact wpList_mapUpdate_own w hg m x v 191 hop 9 3 mapKeyed Tryz.underlying191 _ B n D hm h hn _ _ _ hx hv (keyOf_string_mk Tryz.underlying9 hs) _ [] (plainElem_int Tryz.underlying3 wf) (fun w' h1 h2 => hK w' (MapAt.put k h.isMap h1) h2)
theorem Blk.grown {w w' : World} {g : Nat} {t : TypeId} {cs : Array Value} {row : Option Nat} (h : Blk w g t cs) (hg : w.grownBy w' row) (hne : some g ≠ row) : Blk w' g t cs := (hg.block g h.lt hne).trans h
theorem Ext.mapGrown {W w w' : World} {B : Nat} (he : Ext W w) (hg : w.grownBy w' (some B)) (hB : W.heap.size ≤ B) : Ext W w' := Below.grown he hg he.size (fun k hk => by cases hk; exact hB)
set_option maxRecDepth 100000
theorem recKeyed : Keyed Tryz.prog 77 := Keyed.of_law (deep_law_laid (by kernel_rfl) (m := 2) (by omega) (of_decide_eq_true (by kernel_rfl)) (by kernel_rfl) (by rw [Tryz.underlying77]))
def rval (d : ReceiptD) : Value := .agg #[.string d.reader, .string d.topic, .int .i64 d.index]
theorem rval_inj {a b : ReceiptD} (h : rval a = rval b) : a = b := by
 obtain ⟨a1, a2, a3⟩ := a
 obtain ⟨b1, b2, b3⟩ := b
 simpa [rval] using h
theorem rec_key (d : ReceiptD) (hd : d.Ok) : ∃ l, keyOf Tryz.prog 77 (rval d) = some l := by
 obtain ⟨h1, h2, h3⟩ := hd
 obtain ⟨m, hm⟩ : ∃ m, Tryz.prog.types.size = m + 1 := ⟨_, rfl⟩
 have k1 : Tryz.prog.keyType 77 = true := by kernel_rfl
 have k2 : Tryz.prog.cellsOf 77 = 3 := by kernel_rfl
 have k3 : Tryz.prog.cellsOf 3 = 1 := by kernel_rfl
 have k4 : Tryz.prog.cellsOf 9 = 1 := by kernel_rfl
 have k5 : (rval d).formed Tryz.prog 77 = true := by simp [rval, Value.formed, Tryz.underlying77, k2]
 unfold keyOf
 rw [Tryz.underlying77]
 simp only [k1, k5, Bool.and_self, if_true, hm]
 simp [Program.keyLits, Tryz.underlying77, Tryz.underlying3, Tryz.underlying9, k2, k3, k4, rval, Value.cells, h1, h2, h3]
noncomputable def rkey (d : ReceiptD) : Lit := (keyOf Tryz.prog 77 (rval d)).getD (.bool false)
theorem rkey_of (d : ReceiptD) (hd : d.Ok) : keyOf Tryz.prog 77 (rval d) = some (rkey d) := by
 obtain ⟨l, h⟩ := rec_key d hd
 rw [rkey, h]; rfl
theorem rkey_lit (d : ReceiptD) (hd : d.Ok) : WideAt.IsKeyLit (rkey d) := recKeyed.key (rkey_of d hd)
theorem rkey_inj {a b : ReceiptD} (ha : a.Ok) (hb : b.Ok) (h : rkey a = rkey b) : a = b :=
 rval_inj (recKeyed.inj (rkey_of a ha) (by rw [h]; exact rkey_of b hb))
def MapAtR (w : World) (B n : Nat) (f : ReceiptD → Option Nat) : Prop :=
 ∃ D : DataW Unit, w.ownsMap Tryz.prog 77 (plainElem Tryz.prog 3) B n D ∧ ∀ s : ReceiptD, s.Ok → Maps.has D (rkey s) = (f s).isSome ∧ D.atKey (rkey s) (.lit (.int .i64 0)) = .lit (.int .i64 (((f s).getD 0 : Nat) : Int))
theorem MapAtR.made (w : World) : MapAtR (w.alloc (.map #[] 0)) w.heap.size 0 (fun _ => none) :=
 ⟨.map [], World.ownsMap_made _ _ _ _, fun s _ => ⟨rfl, rfl⟩⟩
theorem MapAtR.lt {w : World} {B n : Nat} {f : ReceiptD → Option Nat} (h : MapAtR w B n f) : B < w.heap.size := by obtain ⟨D, h, _⟩ := h; exact h.lt
theorem MapAtR.ext {w w' : World} {B n : Nat} {f : ReceiptD → Option Nat} (h : MapAtR w B n f) (he : Ext w w') : MapAtR w' B n f := by
 obtain ⟨D, h, k⟩ := h
 exact ⟨D, ownsMap_ext h he, k⟩
theorem MapAtR.mono {w : World} {B n m : Nat} {f : ReceiptD → Option Nat} (h : MapAtR w B n f) (hm : n ≤ m) : MapAtR w B m f := by
 obtain ⟨D, h, k⟩ := h
 exact ⟨D, h.mono hm, k⟩
theorem MapAtR.look1 {w : World} {B n : Nat} {f : ReceiptD → Option Nat} (h : MapAtR w B n f) (s : ReceiptD) (hs : s.Ok) : (Instr.lookup 192 (.map (some B)) (.agg #[.string s.reader, .string s.topic, .int .i64 s.index]) false).run Tryz.prog w = .ok (.int .i64 (((f s).getD 0 : Nat) : Int)) w := by
 obtain ⟨D, h, k⟩ := h
 obtain ⟨c, hrun, hc, _⟩ := h.lookup_int recKeyed Tryz.underlying192 Tryz.underlying3 (mapZero w) (rkey_of s hs)
 have h2 := (k s hs).2
 rw [hc] at h2
 simp only [DataW.lit.injEq, Lit.int.injEq, true_and] at h2
 unfold rval at hrun
 rw [hrun, h2]
def rput (f : ReceiptD → Option Nat) (s : ReceiptD) (m : Nat) : ReceiptD → Option Nat := fun t => if t.eqb s then some m else f t
theorem MapAtR.put {w' : World} {B n m : Nat} {f : ReceiptD → Option Nat} {s : ReceiptD} (hs : s.Ok) {D : DataW Unit} (hD : ∀ s : ReceiptD, s.Ok → Maps.has D (rkey s) = (f s).isSome ∧ D.atKey (rkey s) (.lit (.int .i64 0)) = .lit (.int .i64 (((f s).getD 0 : Nat) : Int)))
 (hm : IsMap D) (h' : w'.ownsMap Tryz.prog 77 (plainElem Tryz.prog 3) B (n + 1) (D.put (rkey s) (.lit (.int .i64 (m : Int))))) : MapAtR w' B (n + 1) (rput f s m) := by
 refine ⟨_, h', fun t ht => ?_⟩
 unfold rput
 cases e : t.eqb s
 · have hne : rkey t ≠ rkey s := fun h => by rw [rkey_inj ht hs h, ReceiptD.eqb_self] at e; cases e
   simp only [Bool.false_eq_true, if_false]
   rw [has_put_other hne, atKey_put_other hne]
   exact hD t ht
 · obtain rfl := (ReceiptD.eqb_iff t s).1 e
   simp only [if_true, Option.isSome_some, Option.getD_some]
   exact ⟨has_put_same hm (rkey_lit t hs) _, atKey_put_same hm (rkey_lit t hs) _ _⟩
end Go.Proofs.YtlgdghpnfclgpaaGreat

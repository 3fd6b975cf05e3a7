/-
  Hashes; NodeW: No condition.
-/
import Derived.Test.YtlgdghpnfclgpaaGreatBroker1
import Derived.Test.YtlgdghpnfclgpaaGreatDisk0
import Derived.Test.YtlgdghpnfclgpaaGreatMerkle
import Derived.Test.YtlgdghpnfclgpaaGreatHashTop
namespace Go.Proofs.YtlgdghpnfclgpaaGreat
set_option maxHeartbeats 2000000
set_option maxRecDepth 100000
set_option linter.unusedSimpArgs false
open Go.RowKit
set_option linter.unusedVariables false
theorem rec_at {l : List ReceiptD} {w : World} {b off : Nat} {k : Nat} {d : ReceiptD} (hc : ∀ j u, (l.flatMap ReceiptD.cells)[k * 3 + j]? = some u → w.cell? ⟨b, off + k * 3 + j, none⟩ = some u) (hd : l[k]? = some d) :
 w.cell? ⟨b, off + k * 3, none⟩ = some (.string d.reader) ∧ w.cell? ⟨b, off + k * 3 + 1, none⟩ = some (.string d.topic) ∧ w.cell? ⟨b, off + k * 3 + 2, none⟩ = some (.int .i64 d.index) :=
 ⟨hc 0 _ (flat_at _ 3 ReceiptD.cells_length l k 0 d hd (by omega)), hc 1 _ (flat_at _ 3 ReceiptD.cells_length l k 1 d hd (by omega)), hc 2 _ (flat_at _ 3 ReceiptD.cells_length l k 2 d hd (by omega))⟩
theorem hashesOf_any (n : Int) (A : Option Addr) (c : Nat) (l : List EntryD) (w : World) (hr : SlF AnyB EntryD.cells 5 w A l c) (hok : ∀ d ∈ l, d.Ok) (hl : l.length ≤ 1048576) :
 Calls Tryz.prog 145 #[.int .i64 n, .agg #[.slice A l.length c]] w fun e w' => ∃ v, e = .returned v ∧ w'.ownsRow w.heap.size 9 1 v l.length ((l.map (leafH n)).flatMap sone) ∧ Ext w w' := by
 obtain ⟨i0, hi, hz0, hz1, hz2⟩ := info_parts info_string
 have HR := hU hr
 have Hok := hU hok
 have He := hU (Ext.new (Below.refl w.heap.size w) (.cells #[.slice A l.length c] 51))
 clear hr hok
 go_enter Tryz.func145, Tryz.ntmps145
 go_wp2_with fail
 go_loopw [5, 13] (fun v i wr => ∃ k : Nat, k ≤ l.length ∧ i = .int .i64 k ∧ wr.ownsRow w.heap.size 9 1 v k (((l.take k).map (leafH n)).flatMap sone) ∧ Ext w wr) (fun _ i _ => l.length - (intOf i).toNat)
 case atStart => exact ⟨0, Nat.zero_le _, rfl, World.ownsRow_nil _ _ _ _, He.out⟩
 case round =>
  clear He
  obtain ⟨k, hk, rfl, hown, he⟩ := hrel
  obtain ⟨V, cv, rfl, hnc⟩ := ownsRow_form hown
  have KO := hU hown; clear hown
  by_cases hlt : k < l.length
  case neg =>
   obtain rfl : k = l.length := by omega
   go_wp2_with fail
   go_ret
   exact ⟨_, rfl, by have := KO.out; rwa [List.take_length] at this, he⟩
  obtain ⟨b, off, rfl, hb, hc⟩ := Reads.at_ (HR.out.ext he).reads (k := k) hlt
  obtain ⟨d, hd⟩ : ∃ d, d = l[k] := ⟨_, rfl⟩
  have hdl : l[k]? = some d := by rw [hd]; exact List.getElem?_eq_getElem hlt
  have hdo := Hok.out d (List.mem_of_getElem? hdl)
  obtain ⟨c0, c1, c2, c3, c4⟩ := entry_at hc hdl
  have HDO := hU hdo; have Hdl := hU hdl
  clear hc hd hdl hdo
  go_wp2_with fail
  refine (implLeafHash_any n d _ HDO.out).mono ?_
  rintro e w1 ⟨rfl, h1⟩
  have h2 : Ext wr w1 := by first | exact h1 | exact Ext.next (Ext.new (Below.refl wr.heap.size wr) _) h1
  replace he := he.next h2; replace KO := hU (ownsRow_ext KO.out h2)
  clear h1 h2 c0 c1 c2 c3 c4
  have hw1 := he.size
  obtain ⟨x, hx⟩ : ∃ x, x = leafH n d := ⟨_, rfl⟩
  rw [← hx]
  have HX := hU hx; clear hx
  go_wp2_with (at_builtin; refine wpList_append_moved _ rfl _ _ 22 rfl w.heap.size 9 i0 _ 1 16 Tryz.underlying22 hi hz0 hz1 hz2 rfl (by decide) _ _ _ rfl (KO.out.alloc _) ⟨w1.heap.size, 0, none⟩ 1 1 [.string x] rfl rfl ?c1 ?c2 ?c3 ?c4 ?c5 ?_)
  case c1 => exact (Blk.new w1 9 #[.string x]).adds
  case c2 => intro u hu; simp at hu; subst hu; rfl
  case c3 => unfold maxLen; omega
  case c4 => omega
  case c5 => simp; omega
  intro v' w2 hown' hfrm hmv
  have L0 := hU KO.out.lt
  have he2 : Ext w w2 := hfrm.toExt (he.new _) (fun y hy e => by have := (L0.out _ e).1; omega)
  obtain ⟨hkl, hkd⟩ := List.getElem?_eq_some_iff.1 Hdl.out
  have e2 : ((l.take k).map (leafH n)).flatMap sone ++ [.string x] = ((l.take (k + 1)).map (leafH n)).flatMap sone := by rw [List.take_succ_eq_append_getElem hkl, hkd, HX.out]; simp [sone]
  have O2 := hU (show w2.ownsRow w.heap.size 9 1 v' (k + 1) (((l.take (k + 1)).map (leafH n)).flatMap sone) by rw [← e2, List.map_take]; exact hown')
  clear hown' hfrm hmv L0 hkd e2 KO he
  go_wp2_with fail
  go_roundw
  case rel => exact ⟨k + 1, by omega, by go_num, O2.out, he2⟩
  case measure => simp [intOf]; omega
theorem l09Hashes_any (n : Int) (A : Option Addr) (c : Nat) (l : List EntryD) (w : World) (hr : SlF AnyB EntryD.cells 5 w A l c) (hok : ∀ d ∈ l, d.Ok) (hl : l.length ≤ 1048576) :
 Calls Tryz.prog 72 #[.int .i64 n, .slice A l.length c] w fun e w' => ∃ v, e = .returned v ∧ w'.ownsRow w.heap.size 9 1 v l.length ((l.map (leafH n)).flatMap sone) ∧ Ext w w' := by
 obtain ⟨i0, hi, hz0, hz1, hz2⟩ := info_parts info_string
 have HR := hU hr
 have Hok := hU hok
 have He := hU (Ext.new (Below.refl w.heap.size w) (.cells #[] 9))
 have OE := hU (ownsRow_empty w 9 1)
 clear hr hok
 go_enter Tryz.func72, Tryz.ntmps72
 go_wp2_with fail
 go_loopw [5, 6] (fun v i wr => ∃ k : Nat, k ≤ l.length ∧ i = .int .i64 k ∧ wr.ownsRow w.heap.size 9 1 v k (((l.take k).map (leafH n)).flatMap sone) ∧ Ext w wr) (fun _ i _ => l.length - (intOf i).toNat)
 case atStart => exact ⟨0, Nat.zero_le _, rfl, OE.out, He.out⟩
 case round =>
  clear He
  obtain ⟨k, hk, rfl, hown, he⟩ := hrel
  obtain ⟨V, cv, rfl, hnc⟩ := ownsRow_form hown
  have KO := hU hown; clear hown
  by_cases hlt : k < l.length
  case neg =>
   obtain rfl : k = l.length := by omega
   go_wp2_with fail
   go_ret
   exact ⟨_, rfl, by have := KO.out; rwa [List.take_length] at this, he⟩
  obtain ⟨b, off, rfl, hb, hc⟩ := Reads.at_ (HR.out.ext he).reads (k := k) hlt
  obtain ⟨d, hd⟩ : ∃ d, d = l[k] := ⟨_, rfl⟩
  have hdl : l[k]? = some d := by rw [hd]; exact List.getElem?_eq_getElem hlt
  have hdo := Hok.out d (List.mem_of_getElem? hdl)
  obtain ⟨c0, c1, c2, c3, c4⟩ := entry_at hc hdl
  have HDO := hU hdo; have Hdl := hU hdl
  clear hc hd hdl hdo
  go_wp2_with fail
  refine (specLeafHash_any n d _ HDO.out).mono ?_
  rintro e w1 ⟨rfl, h1⟩
  have h2 : Ext wr w1 := by first | exact h1 | exact Ext.next (Ext.new (Below.refl wr.heap.size wr) _) h1
  replace he := he.next h2; replace KO := hU (ownsRow_ext KO.out h2)
  clear h1 h2 c0 c1 c2 c3 c4
  have hw1 := he.size
  obtain ⟨x, hx⟩ : ∃ x, x = leafH n d := ⟨_, rfl⟩
  rw [← hx]
  have HX := hU hx; clear hx
  go_wp2_with (at_builtin; refine wpList_append_moved _ rfl _ _ 22 rfl w.heap.size 9 i0 _ 1 16 Tryz.underlying22 hi hz0 hz1 hz2 rfl (by decide) _ _ _ rfl (KO.out.alloc _) ⟨w1.heap.size, 0, none⟩ 1 1 [.string x] rfl rfl ?c1 ?c2 ?c3 ?c4 ?c5 ?_)
  case c1 => exact (Blk.new w1 9 #[.string x]).adds
  case c2 => intro u hu; simp at hu; subst hu; rfl
  case c3 => unfold maxLen; omega
  case c4 => omega
  case c5 => simp; omega
  intro v' w2 hown' hfrm hmv
  have L0 := hU KO.out.lt
  have he2 : Ext w w2 := hfrm.toExt (he.new _) (fun y hy e => by have := (L0.out _ e).1; omega)
  obtain ⟨hkl, hkd⟩ := List.getElem?_eq_some_iff.1 Hdl.out
  have e2 : ((l.take k).map (leafH n)).flatMap sone ++ [.string x] = ((l.take (k + 1)).map (leafH n)).flatMap sone := by rw [List.take_succ_eq_append_getElem hkl, hkd, HX.out]; simp [sone]
  have O2 := hU (show w2.ownsRow w.heap.size 9 1 v' (k + 1) (((l.take (k + 1)).map (leafH n)).flatMap sone) by rw [← e2, List.map_take]; exact hown')
  clear hown' hfrm hmv L0 hkd e2 KO he
  go_wp2_with fail
  go_roundw
  case rel => exact ⟨k + 1, by omega, by go_num, O2.out, he2⟩
  case measure => simp [intOf]; omega
theorem receiptHashes_any (n : Int) (A : Option Addr) (c : Nat) (l : List ReceiptD) (w : World) (hr : SlF AnyB ReceiptD.cells 3 w A l c) (hok : ∀ d ∈ l, d.Ok) (hl : l.length ≤ 1048576) :
 Calls Tryz.prog 146 #[.int .i64 n, .slice A l.length c] w fun e w' => ∃ v, e = .returned v ∧ w'.ownsRow w.heap.size 9 1 v l.length ((l.map (recH n)).flatMap sone) ∧ Ext w w' := by
 obtain ⟨i0, hi, hz0, hz1, hz2⟩ := info_parts info_string
 have HR := hU hr
 have Hok := hU hok
 have He := hU (Below.refl w.heap.size w)
 clear hr hok
 go_enter Tryz.func146, Tryz.ntmps146
 go_wp2_with fail
 go_loopw [5, 12] (fun v i wr => ∃ k : Nat, k ≤ l.length ∧ i = .int .i64 k ∧ wr.ownsRow w.heap.size 9 1 v k (((l.take k).map (recH n)).flatMap sone) ∧ Ext w wr) (fun _ i _ => l.length - (intOf i).toNat)
 case atStart => exact ⟨0, Nat.zero_le _, rfl, World.ownsRow_nil _ _ _ _, He.out⟩
 case round =>
  clear He
  obtain ⟨k, hk, rfl, hown, he⟩ := hrel
  obtain ⟨V, cv, rfl, hnc⟩ := ownsRow_form hown
  have KO := hU hown; clear hown
  by_cases hlt : k < l.length
  case neg =>
   obtain rfl : k = l.length := by omega
   go_wp2_with fail
   go_ret
   exact ⟨_, rfl, by have := KO.out; rwa [List.take_length] at this, he⟩
  obtain ⟨b, off, rfl, hb, hc⟩ := Reads.at_ (HR.out.ext he).reads (k := k) hlt
  obtain ⟨d, hd⟩ : ∃ d, d = l[k] := ⟨_, rfl⟩
  have hdl : l[k]? = some d := by rw [hd]; exact List.getElem?_eq_getElem hlt
  have hdo := Hok.out d (List.mem_of_getElem? hdl)
  obtain ⟨c0, c1, c2⟩ := rec_at hc hdl
  have HDO := hU hdo; have Hdl := hU hdl
  clear hc hd hdl hdo
  go_wp2_with fail
  refine (implReceiptHash_any n d _ HDO.out).mono ?_
  rintro e w1 ⟨rfl, h1⟩
  have h2 : Ext wr w1 := by first | exact h1 | exact Ext.next (Ext.new (Below.refl wr.heap.size wr) _) h1
  replace he := he.next h2; replace KO := hU (ownsRow_ext KO.out h2)
  clear h1 h2 c0 c1 c2
  have hw1 := he.size
  obtain ⟨x, hx⟩ : ∃ x, x = recH n d := ⟨_, rfl⟩
  rw [← hx]
  have HX := hU hx; clear hx
  go_wp2_with (at_builtin; refine wpList_append_moved _ rfl _ _ 22 rfl w.heap.size 9 i0 _ 1 16 Tryz.underlying22 hi hz0 hz1 hz2 rfl (by decide) _ _ _ rfl (KO.out.alloc _) ⟨w1.heap.size, 0, none⟩ 1 1 [.string x] rfl rfl ?c1 ?c2 ?c3 ?c4 ?c5 ?_)
  case c1 => exact (Blk.new w1 9 #[.string x]).adds
  case c2 => intro u hu; simp at hu; subst hu; rfl
  case c3 => unfold maxLen; omega
  case c4 => omega
  case c5 => simp; omega
  intro v' w2 hown' hfrm hmv
  have L0 := hU KO.out.lt
  have he2 : Ext w w2 := hfrm.toExt (he.new _) (fun y hy e => by have := (L0.out _ e).1; omega)
  obtain ⟨hkl, hkd⟩ := List.getElem?_eq_some_iff.1 Hdl.out
  have e2 : ((l.take k).map (recH n)).flatMap sone ++ [.string x] = ((l.take (k + 1)).map (recH n)).flatMap sone := by rw [List.take_succ_eq_append_getElem hkl, hkd, HX.out]; simp [sone]
  have O2 := hU (show w2.ownsRow w.heap.size 9 1 v' (k + 1) (((l.take (k + 1)).map (recH n)).flatMap sone) by rw [← e2, List.map_take]; exact hown')
  clear hown' hfrm hmv L0 hkd e2 KO he
  go_wp2_with fail
  go_roundw
  case rel => exact ⟨k + 1, by omega, by go_num, O2.out, he2⟩
  case measure => simp [intOf]; omega
theorem l12Taken_any (n : Int) (A : Option Addr) (c : Nat) (l : List ReceiptD) (w : World) (hr : SlF AnyB ReceiptD.cells 3 w A l c) (hok : ∀ d ∈ l, d.Ok) (hl : l.length ≤ 1048576) :
 Calls Tryz.prog 73 #[.int .i64 n, .slice A l.length c] w fun e w' => ∃ v, e = .returned v ∧ w'.ownsRow w.heap.size 9 1 v l.length ((l.map (recH n)).flatMap sone) ∧ Ext w w' := by
 obtain ⟨i0, hi, hz0, hz1, hz2⟩ := info_parts info_string
 have HR := hU hr
 have Hok := hU hok
 have He := hU (Ext.new (Below.refl w.heap.size w) (.cells #[] 9))
 have OE := hU (ownsRow_empty w 9 1)
 clear hr hok
 go_enter Tryz.func73, Tryz.ntmps73
 go_wp2_with fail
 go_loopw [5, 6] (fun v i wr => ∃ k : Nat, k ≤ l.length ∧ i = .int .i64 k ∧ wr.ownsRow w.heap.size 9 1 v k (((l.take k).map (recH n)).flatMap sone) ∧ Ext w wr) (fun _ i _ => l.length - (intOf i).toNat)
 case atStart => exact ⟨0, Nat.zero_le _, rfl, OE.out, He.out⟩
 case round =>
  clear He
  obtain ⟨k, hk, rfl, hown, he⟩ := hrel
  obtain ⟨V, cv, rfl, hnc⟩ := ownsRow_form hown
  have KO := hU hown; clear hown
  by_cases hlt : k < l.length
  case neg =>
   obtain rfl : k = l.length := by omega
   go_wp2_with fail
   go_ret
   exact ⟨_, rfl, by have := KO.out; rwa [List.take_length] at this, he⟩
  obtain ⟨b, off, rfl, hb, hc⟩ := Reads.at_ (HR.out.ext he).reads (k := k) hlt
  obtain ⟨d, hd⟩ : ∃ d, d = l[k] := ⟨_, rfl⟩
  have hdl : l[k]? = some d := by rw [hd]; exact List.getElem?_eq_getElem hlt
  have hdo := Hok.out d (List.mem_of_getElem? hdl)
  obtain ⟨c0, c1, c2⟩ := rec_at hc hdl
  have HDO := hU hdo; have Hdl := hU hdl
  clear hc hd hdl hdo
  go_wp2_with fail
  refine (specReceiptHash_any n d _ HDO.out).mono ?_
  rintro e w1 ⟨rfl, h1⟩
  have h2 : Ext wr w1 := by first | exact h1 | exact Ext.next (Ext.new (Below.refl wr.heap.size wr) _) h1
  replace he := he.next h2; replace KO := hU (ownsRow_ext KO.out h2)
  clear h1 h2 c0 c1 c2
  have hw1 := he.size
  obtain ⟨x, hx⟩ : ∃ x, x = recH n d := ⟨_, rfl⟩
  rw [← hx]
  have HX := hU hx; clear hx
  go_wp2_with (at_builtin; refine wpList_append_moved _ rfl _ _ 22 rfl w.heap.size 9 i0 _ 1 16 Tryz.underlying22 hi hz0 hz1 hz2 rfl (by decide) _ _ _ rfl (KO.out.alloc _) ⟨w1.heap.size, 0, none⟩ 1 1 [.string x] rfl rfl ?c1 ?c2 ?c3 ?c4 ?c5 ?_)
  case c1 => exact (Blk.new w1 9 #[.string x]).adds
  case c2 => intro u hu; simp at hu; subst hu; rfl
  case c3 => unfold maxLen; omega
  case c4 => omega
  case c5 => simp; omega
  intro v' w2 hown' hfrm hmv
  have L0 := hU KO.out.lt
  have he2 : Ext w w2 := hfrm.toExt (he.new _) (fun y hy e => by have := (L0.out _ e).1; omega)
  obtain ⟨hkl, hkd⟩ := List.getElem?_eq_some_iff.1 Hdl.out
  have e2 : ((l.take k).map (recH n)).flatMap sone ++ [.string x] = ((l.take (k + 1)).map (recH n)).flatMap sone := by rw [List.take_succ_eq_append_getElem hkl, hkd, HX.out]; simp [sone]
  have O2 := hU (show w2.ownsRow w.heap.size 9 1 v' (k + 1) (((l.take (k + 1)).map (recH n)).flatMap sone) by rw [← e2, List.map_take]; exact hown')
  clear hown' hfrm hmv L0 hkd e2 KO he
  go_wp2_with fail
  go_roundw
  case rel => exact ⟨k + 1, by omega, by go_num, O2.out, he2⟩
  case measure => simp [intOf]; omega
set_option maxHeartbeats 1000000
theorem node_any (n : Int) (a b : ByteArray) (w : World) (ha : a.size ≤ 1000) (hb : b.size ≤ 1000) : Calls Tryz.prog 240 #[.int .i64 n, .string a, .string b] w fun e w' => e = .returned (.string (nodeT n (a ++ b))) ∧ Ext w w' := by
 have hs : (a ++ b).size ≤ maxLen := by rw [ByteArray.size_append]; unfold maxLen; omega
 go_enter Tryz.func240, Tryz.ntmps240
 go_wp2_with fail
 refine (Digest_any n 1 (a ++ b) _ hs).mono ?_
 rintro e w1 ⟨rfl, h1⟩
 go_wp2_with fail
 go_ret
 exact ⟨rfl, h1⟩
end Go.Proofs.YtlgdghpnfclgpaaGreat

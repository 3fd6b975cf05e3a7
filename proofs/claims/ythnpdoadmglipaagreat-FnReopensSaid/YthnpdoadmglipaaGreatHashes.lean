/-
  EvidenceOps; EvOf; Disk0; Hashes: No condition.
-/
import Derived.Test.YthnpdoadmglipaaGreatAppNew
import Derived.Test.YthnpdoadmglipaaGreatUnfrLaw
import Derived.Test.YthnpdoadmglipaaGreatFramesWk
import Derived.Test.YthnpdoadmglipaaGreatBunch
import Derived.Test.YthnpdoadmglipaaGreatBroker1
import Derived.Test.YthnpdoadmglipaaGreatStoreL
namespace Go.Proofs.YthnpdoadmglipaaGreat
set_option linter.unusedSimpArgs false
open Go.RowKit
set_option linter.unusedVariables false

theorem three_blks (w : World) (x2 x3 x4 : Array Value) (t2 t3 t4 : TypeId) :
 Blk (((w.alloc (.cells x2 t2)).alloc (.cells x3 t3)).alloc (.cells x4 t4)) w.heap.size t2 x2 ∧ Blk (((w.alloc (.cells x2 t2)).alloc (.cells x3 t3)).alloc (.cells x4 t4)) (w.heap.size + 1) t3 x3 ∧ Blk (((w.alloc (.cells x2 t2)).alloc (.cells x3 t3)).alloc (.cells x4 t4)) (w.heap.size + 1 + 1) t4 x4 ∧ Ext w (((w.alloc (.cells x2 t2)).alloc (.cells x3 t3)).alloc (.cells x4 t4)) := by
 obtain ⟨h2, h3, he⟩ := two_blks w x2 x3 t2 t3
 have h4 : ((w.alloc (.cells x2 t2)).alloc (.cells x3 t3)).heap.size = w.heap.size + 1 + 1 := by simp
 refine ⟨h2.alloc _, h3.alloc _, ?_, Ext.new he _⟩
 have := Blk.new ((w.alloc (.cells x2 t2)).alloc (.cells x3 t3)) t4 x4; rwa [h4] at this
set_option maxRecDepth 100000
theorem info_string : (Tryz.prog.info? 9).map (fun i => (i.zero, i.size, i.bytes)) = some (some (.string ⟨#[]⟩), 1, 16) := by kernel_rfl
theorem make_three (W : World) : (Instr.makeSlice 29 (.int .i64 3) (.int .i64 3)).run Tryz.prog W = .ok (.slice (some ⟨W.heap.size, 0, none⟩) 3 3) (W.alloc (.cells #[.string ⟨#[]⟩, .string ⟨#[]⟩, .string ⟨#[]⟩] 9)) := by
 obtain ⟨i, hi, hz, hs, hb⟩ := info_parts info_string
 have hr := run_make (P := Tryz.prog) W 29 9 i _ Tryz.underlying29 hi hz .i64 .i64 3 3 (by omega) (Int.le_refl _) (by rw [hb]; decide) (by omega)
 rw [hs] at hr
 have e : madeCells (Value.string ⟨#[]⟩).cells (Int.toNat 3 * 1) = #[.string ⟨#[]⟩, .string ⟨#[]⟩, .string ⟨#[]⟩] := by kernel_rfl
 rw [e] at hr
 exact hr
theorem DiskNew_any (w : World) : Calls Tryz.prog 69 #[] w fun e w' => ∃ q, e = .returned (.agg #[.slice (some ⟨q, 0, none⟩) 3 3]) ∧ w.heap.size ≤ q ∧ Blk w' q 9 #[.string ⟨#[]⟩, .string ⟨#[]⟩, .string ⟨#[]⟩] ∧ Ext w w' := by
 have HM := make_three
 obtain ⟨B0, B1, he⟩ := two_new w #[.slice (some ⟨w.heap.size + 1, 0, none⟩) 3 3] #[.string ⟨#[]⟩, .string ⟨#[]⟩, .string ⟨#[]⟩] 46 9
 have K0 := hU B0; have K1 := hU B1; have He := hU he; clear B0 B1 he
 go_enter Tryz.func69, Tryz.ntmps69
 go_wp2_with fail
 exact ret_row rfl rfl K0.out Tryz.underlying46 rfl (by kernel_rfl) rfl ⟨_, rfl, by omega, K1.out, He.out⟩
set_option maxHeartbeats 2000000
theorem rec_at {l : List ReceiptD} {w : World} {b off : Nat} {k : Nat} {d : ReceiptD} (hc : ∀ j u, (l.flatMap ReceiptD.cells)[k * 3 + j]? = some u → w.cell? ⟨b, off + k * 3 + j, none⟩ = some u) (hd : l[k]? = some d) :
 w.cell? ⟨b, off + k * 3, none⟩ = some (.string d.reader) ∧ w.cell? ⟨b, off + k * 3 + 1, none⟩ = some (.string d.topic) ∧ w.cell? ⟨b, off + k * 3 + 2, none⟩ = some (.int .i64 d.index) :=
 ⟨hc 0 _ (flat_at _ 3 ReceiptD.cells_length l k 0 d hd (by omega)), hc 1 _ (flat_at _ 3 ReceiptD.cells_length l k 1 d hd (by omega)), hc 2 _ (flat_at _ 3 ReceiptD.cells_length l k 2 d hd (by omega))⟩
theorem hashesOf_any (n : Int) (A : Option Addr) (c : Nat) (l : List EntryD) (w : World) (hr : SlF AnyB EntryD.cells 5 w A l c) (hok : ∀ d ∈ l, d.Ok) (hl : l.length ≤ 1048576) :
 Calls Tryz.prog 79 #[.int .i64 n, .agg #[.slice A l.length c]] w fun e w' => ∃ v, e = .returned v ∧ w'.ownsRow w.heap.size 9 1 v l.length ((l.map (leafH n)).flatMap sone) ∧ Ext w w' := by
 obtain ⟨i0, hi, hz0, hz1, hz2⟩ := info_parts info_string
 have HR := hU hr
 have Hok := hU hok
 have He := hU (Ext.new (Below.refl w.heap.size w) (.cells #[.slice A l.length c] 26))
 clear hr hok
 go_enter Tryz.func79, Tryz.ntmps79
 go_wp2_with fail
 go_loopw [5, 13] (fun v i wr => ∃ k : Nat, k ≤ l.length ∧ i = .int .i64 k ∧ wr.ownsRow w.heap.size 9 1 v k (((l.take k).map (leafH n)).flatMap sone) ∧ Ext w wr) (fun _ i _ => l.length - (intOf i).toNat)
 case atStart => exact ⟨0, Nat.zero_le _, rfl, World.ownsRow_nil _ _ _ _, He.out⟩
 case round =>
  clear He
  obtain ⟨k, hk, rfl, hown, he⟩ := hrel
  obtain ⟨V, cv, rfl, hnc⟩ := ownsRow_form hown
  have KO := hU hown; clear hown
  by_cases hlt : k < l.length
  case neg =>
   obtain rfl : k = l.length := by omega
   go_wp2_with fail
   go_ret
   exact ⟨_, rfl, by have := KO.out; rwa [List.take_length] at this, he⟩
  obtain ⟨b, off, rfl, hb, hc⟩ := Reads.at_ (HR.out.ext he).reads (k := k) hlt
  obtain ⟨d, hd⟩ : ∃ d, d = l[k] := ⟨_, rfl⟩
  have hdl : l[k]? = some d := by rw [hd]; exact List.getElem?_eq_getElem hlt
  have hdo := Hok.out d (List.mem_of_getElem? hdl)
  obtain ⟨c0, c1, c2, c3, c4⟩ := entry_at hc hdl
  have HDO := hU hdo; have Hdl := hU hdl
  clear hc hd hdl hdo
  go_wp2_with fail
  refine (implLeafHash_any n d _ HDO.out).mono ?_
  rintro e w1 ⟨rfl, h1⟩
  have h2 : Ext wr w1 := by first | exact h1 | exact Ext.next (Ext.new (Below.refl wr.heap.size wr) _) h1
  replace he := he.next h2; replace KO := hU (ownsRow_ext KO.out h2)
  clear h1 h2 c0 c1 c2 c3 c4
  have hw1 := he.size
  obtain ⟨x, hx⟩ : ∃ x, x = leafH n d := ⟨_, rfl⟩
  rw [← hx]
  have HX := hU hx; clear hx
  go_wp2_with (at_builtin; refine wpList_append_moved _ rfl _ _ 29 rfl w.heap.size 9 i0 _ 1 16 Tryz.underlying29 hi hz0 hz1 hz2 rfl (by decide) _ _ _ rfl (KO.out.alloc _) ⟨w1.heap.size, 0, none⟩ 1 1 [.string x] rfl rfl ?c1 ?c2 ?c3 ?c4 ?c5 ?_)
  case c1 => exact (Blk.new w1 9 #[.string x]).adds
  case c2 => intro u hu; simp at hu; subst hu; rfl
  case c3 => unfold maxLen; omega
  case c4 => omega
  case c5 => simp; omega
  intro v' w2 hown' hfrm hmv
  have L0 := hU KO.out.lt
  have he2 : Ext w w2 := hfrm.toExt (he.new _) (fun y hy e => by have := (L0.out _ e).1; omega)
  obtain ⟨hkl, hkd⟩ := List.getElem?_eq_some_iff.1 Hdl.out
  have e2 : ((l.take k).map (leafH n)).flatMap sone ++ [.string x] = ((l.take (k + 1)).map (leafH n)).flatMap sone := by rw [List.take_succ_eq_append_getElem hkl, hkd, HX.out]; simp [sone]
  have O2 := hU (show w2.ownsRow w.heap.size 9 1 v' (k + 1) (((l.take (k + 1)).map (leafH n)).flatMap sone) by rw [← e2, List.map_take]; exact hown')
  clear hown' hfrm hmv L0 hkd e2 KO he
  go_wp2_with fail
  go_roundw
  case rel => exact ⟨k + 1, by omega, by go_num, O2.out, he2⟩
  case measure => simp [intOf]; omega
theorem l09Hashes_any (n : Int) (A : Option Addr) (c : Nat) (l : List EntryD) (w : World) (hr : SlF AnyB EntryD.cells 5 w A l c) (hok : ∀ d ∈ l, d.Ok) (hl : l.length ≤ 1048576) :
 Calls Tryz.prog 91 #[.int .i64 n, .slice A l.length c] w fun e w' => ∃ v, e = .returned v ∧ w'.ownsRow w.heap.size 9 1 v l.length ((l.map (leafH n)).flatMap sone) ∧ Ext w w' := by
 obtain ⟨i0, hi, hz0, hz1, hz2⟩ := info_parts info_string
 have HR := hU hr
 have Hok := hU hok
 have He := hU (Ext.new (Below.refl w.heap.size w) (.cells #[] 9))
 have OE := hU (ownsRow_empty w 9 1)
 clear hr hok
 go_enter Tryz.func91, Tryz.ntmps91
 go_wp2_with fail
 go_loopw [5, 6] (fun v i wr => ∃ k : Nat, k ≤ l.length ∧ i = .int .i64 k ∧ wr.ownsRow w.heap.size 9 1 v k (((l.take k).map (leafH n)).flatMap sone) ∧ Ext w wr) (fun _ i _ => l.length - (intOf i).toNat)
 case atStart => exact ⟨0, Nat.zero_le _, rfl, OE.out, He.out⟩
 case round =>
  clear He
  obtain ⟨k, hk, rfl, hown, he⟩ := hrel
  obtain ⟨V, cv, rfl, hnc⟩ := ownsRow_form hown
  have KO := hU hown; clear hown
  by_cases hlt : k < l.length
  case neg =>
   obtain rfl : k = l.length := by omega
   go_wp2_with fail
   go_ret
   exact ⟨_, rfl, by have := KO.out; rwa [List.take_length] at this, he⟩
  obtain ⟨b, off, rfl, hb, hc⟩ := Reads.at_ (HR.out.ext he).reads (k := k) hlt
  obtain ⟨d, hd⟩ : ∃ d, d = l[k] := ⟨_, rfl⟩
  have hdl : l[k]? = some d := by rw [hd]; exact List.getElem?_eq_getElem hlt
  have hdo := Hok.out d (List.mem_of_getElem? hdl)
  obtain ⟨c0, c1, c2, c3, c4⟩ := entry_at hc hdl
  have HDO := hU hdo; have Hdl := hU hdl
  clear hc hd hdl hdo
  go_wp2_with fail
  refine (specLeafHash_any n d _ HDO.out).mono ?_
  rintro e w1 ⟨rfl, h1⟩
  have h2 : Ext wr w1 := by first | exact h1 | exact Ext.next (Ext.new (Below.refl wr.heap.size wr) _) h1
  replace he := he.next h2; replace KO := hU (ownsRow_ext KO.out h2)
  clear h1 h2 c0 c1 c2 c3 c4
  have hw1 := he.size
  obtain ⟨x, hx⟩ : ∃ x, x = leafH n d := ⟨_, rfl⟩
  rw [← hx]
  have HX := hU hx; clear hx
  go_wp2_with (at_builtin; refine wpList_append_moved _ rfl _ _ 29 rfl w.heap.size 9 i0 _ 1 16 Tryz.underlying29 hi hz0 hz1 hz2 rfl (by decide) _ _ _ rfl (KO.out.alloc _) ⟨w1.heap.size, 0, none⟩ 1 1 [.string x] rfl rfl ?c1 ?c2 ?c3 ?c4 ?c5 ?_)
  case c1 => exact (Blk.new w1 9 #[.string x]).adds
  case c2 => intro u hu; simp at hu; subst hu; rfl
  case c3 => unfold maxLen; omega
  case c4 => omega
  case c5 => simp; omega
  intro v' w2 hown' hfrm hmv
  have L0 := hU KO.out.lt
  have he2 : Ext w w2 := hfrm.toExt (he.new _) (fun y hy e => by have := (L0.out _ e).1; omega)
  obtain ⟨hkl, hkd⟩ := List.getElem?_eq_some_iff.1 Hdl.out
  have e2 : ((l.take k).map (leafH n)).flatMap sone ++ [.string x] = ((l.take (k + 1)).map (leafH n)).flatMap sone := by rw [List.take_succ_eq_append_getElem hkl, hkd, HX.out]; simp [sone]
  have O2 := hU (show w2.ownsRow w.heap.size 9 1 v' (k + 1) (((l.take (k + 1)).map (leafH n)).flatMap sone) by rw [← e2, List.map_take]; exact hown')
  clear hown' hfrm hmv L0 hkd e2 KO he
  go_wp2_with fail
  go_roundw
  case rel => exact ⟨k + 1, by omega, by go_num, O2.out, he2⟩
  case measure => simp [intOf]; omega
theorem receiptHashes_any (n : Int) (A : Option Addr) (c : Nat) (l : List ReceiptD) (w : World) (hr : SlF AnyB ReceiptD.cells 3 w A l c) (hok : ∀ d ∈ l, d.Ok) (hl : l.length ≤ 1048576) :
 Calls Tryz.prog 80 #[.int .i64 n, .slice A l.length c] w fun e w' => ∃ v, e = .returned v ∧ w'.ownsRow w.heap.size 9 1 v l.length ((l.map (recH n)).flatMap sone) ∧ Ext w w' := by
 obtain ⟨i0, hi, hz0, hz1, hz2⟩ := info_parts info_string
 have HR := hU hr
 have Hok := hU hok
 have He := hU (Below.refl w.heap.size w)
 clear hr hok
 go_enter Tryz.func80, Tryz.ntmps80
 go_wp2_with fail
 go_loopw [5, 12] (fun v i wr => ∃ k : Nat, k ≤ l.length ∧ i = .int .i64 k ∧ wr.ownsRow w.heap.size 9 1 v k (((l.take k).map (recH n)).flatMap sone) ∧ Ext w wr) (fun _ i _ => l.length - (intOf i).toNat)
 case atStart => exact ⟨0, Nat.zero_le _, rfl, World.ownsRow_nil _ _ _ _, He.out⟩
 case round =>
  clear He
  obtain ⟨k, hk, rfl, hown, he⟩ := hrel
  obtain ⟨V, cv, rfl, hnc⟩ := ownsRow_form hown
  have KO := hU hown; clear hown
  by_cases hlt : k < l.length
  case neg =>
   obtain rfl : k = l.length := by omega
   go_wp2_with fail
   go_ret
   exact ⟨_, rfl, by have := KO.out; rwa [List.take_length] at this, he⟩
  obtain ⟨b, off, rfl, hb, hc⟩ := Reads.at_ (HR.out.ext he).reads (k := k) hlt
  obtain ⟨d, hd⟩ : ∃ d, d = l[k] := ⟨_, rfl⟩
  have hdl : l[k]? = some d := by rw [hd]; exact List.getElem?_eq_getElem hlt
  have hdo := Hok.out d (List.mem_of_getElem? hdl)
  obtain ⟨c0, c1, c2⟩ := rec_at hc hdl
  have HDO := hU hdo; have Hdl := hU hdl
  clear hc hd hdl hdo
  go_wp2_with fail
  refine (implReceiptHash_any n d _ HDO.out).mono ?_
  rintro e w1 ⟨rfl, h1⟩
  have h2 : Ext wr w1 := by first | exact h1 | exact Ext.next (Ext.new (Below.refl wr.heap.size wr) _) h1
  replace he := he.next h2; replace KO := hU (ownsRow_ext KO.out h2)
  clear h1 h2 c0 c1 c2
  have hw1 := he.size
  obtain ⟨x, hx⟩ : ∃ x, x = recH n d := ⟨_, rfl⟩
  rw [← hx]
  have HX := hU hx; clear hx
  go_wp2_with (at_builtin; refine wpList_append_moved _ rfl _ _ 29 rfl w.heap.size 9 i0 _ 1 16 Tryz.underlying29 hi hz0 hz1 hz2 rfl (by decide) _ _ _ rfl (KO.out.alloc _) ⟨w1.heap.size, 0, none⟩ 1 1 [.string x] rfl rfl ?c1 ?c2 ?c3 ?c4 ?c5 ?_)
  case c1 => exact (Blk.new w1 9 #[.string x]).adds
  case c2 => intro u hu; simp at hu; subst hu; rfl
  case c3 => unfold maxLen; omega
  case c4 => omega
  case c5 => simp; omega
  intro v' w2 hown' hfrm hmv
  have L0 := hU KO.out.lt
  have he2 : Ext w w2 := hfrm.toExt (he.new _) (fun y hy e => by have := (L0.out _ e).1; omega)
  obtain ⟨hkl, hkd⟩ := List.getElem?_eq_some_iff.1 Hdl.out
  have e2 : ((l.take k).map (recH n)).flatMap sone ++ [.string x] = ((l.take (k + 1)).map (recH n)).flatMap sone := by rw [List.take_succ_eq_append_getElem hkl, hkd, HX.out]; simp [sone]
  have O2 := hU (show w2.ownsRow w.heap.size 9 1 v' (k + 1) (((l.take (k + 1)).map (recH n)).flatMap sone) by rw [← e2, List.map_take]; exact hown')
  clear hown' hfrm hmv L0 hkd e2 KO he
  go_wp2_with fail
  go_roundw
  case rel => exact ⟨k + 1, by omega, by go_num, O2.out, he2⟩
  case measure => simp [intOf]; omega
theorem l12Taken_any (n : Int) (A : Option Addr) (c : Nat) (l : List ReceiptD) (w : World) (hr : SlF AnyB ReceiptD.cells 3 w A l c) (hok : ∀ d ∈ l, d.Ok) (hl : l.length ≤ 1048576) :
 Calls Tryz.prog 92 #[.int .i64 n, .slice A l.length c] w fun e w' => ∃ v, e = .returned v ∧ w'.ownsRow w.heap.size 9 1 v l.length ((l.map (recH n)).flatMap sone) ∧ Ext w w' := by
 obtain ⟨i0, hi, hz0, hz1, hz2⟩ := info_parts info_string
 have HR := hU hr
 have Hok := hU hok
 have He := hU (Ext.new (Below.refl w.heap.size w) (.cells #[] 9))
 have OE := hU (ownsRow_empty w 9 1)
 clear hr hok
 go_enter Tryz.func92, Tryz.ntmps92
 go_wp2_with fail
 go_loopw [5, 6] (fun v i wr => ∃ k : Nat, k ≤ l.length ∧ i = .int .i64 k ∧ wr.ownsRow w.heap.size 9 1 v k (((l.take k).map (recH n)).flatMap sone) ∧ Ext w wr) (fun _ i _ => l.length - (intOf i).toNat)
 case atStart => exact ⟨0, Nat.zero_le _, rfl, OE.out, He.out⟩
 case round =>
  clear He
  obtain ⟨k, hk, rfl, hown, he⟩ := hrel
  obtain ⟨V, cv, rfl, hnc⟩ := ownsRow_form hown
  have KO := hU hown; clear hown
  by_cases hlt : k < l.length
  case neg =>
   obtain rfl : k = l.length := by omega
   go_wp2_with fail
   go_ret
   exact ⟨_, rfl, by have := KO.out; rwa [List.take_length] at this, he⟩
  obtain ⟨b, off, rfl, hb, hc⟩ := Reads.at_ (HR.out.ext he).reads (k := k) hlt
  obtain ⟨d, hd⟩ : ∃ d, d = l[k] := ⟨_, rfl⟩
  have hdl : l[k]? = some d := by rw [hd]; exact List.getElem?_eq_getElem hlt
  have hdo := Hok.out d (List.mem_of_getElem? hdl)
  obtain ⟨c0, c1, c2⟩ := rec_at hc hdl
  have HDO := hU hdo; have Hdl := hU hdl
  clear hc hd hdl hdo
  go_wp2_with fail
  refine (specReceiptHash_any n d _ HDO.out).mono ?_
  rintro e w1 ⟨rfl, h1⟩
  have h2 : Ext wr w1 := by first | exact h1 | exact Ext.next (Ext.new (Below.refl wr.heap.size wr) _) h1
  replace he := he.next h2; replace KO := hU (ownsRow_ext KO.out h2)
  clear h1 h2 c0 c1 c2
  have hw1 := he.size
  obtain ⟨x, hx⟩ : ∃ x, x = recH n d := ⟨_, rfl⟩
  rw [← hx]
  have HX := hU hx; clear hx
  go_wp2_with (at_builtin; refine wpList_append_moved _ rfl _ _ 29 rfl w.heap.size 9 i0 _ 1 16 Tryz.underlying29 hi hz0 hz1 hz2 rfl (by decide) _ _ _ rfl (KO.out.alloc _) ⟨w1.heap.size, 0, none⟩ 1 1 [.string x] rfl rfl ?c1 ?c2 ?c3 ?c4 ?c5 ?_)
  case c1 => exact (Blk.new w1 9 #[.string x]).adds
  case c2 => intro u hu; simp at hu; subst hu; rfl
  case c3 => unfold maxLen; omega
  case c4 => omega
  case c5 => simp; omega
  intro v' w2 hown' hfrm hmv
  have L0 := hU KO.out.lt
  have he2 : Ext w w2 := hfrm.toExt (he.new _) (fun y hy e => by have := (L0.out _ e).1; omega)
  obtain ⟨hkl, hkd⟩ := List.getElem?_eq_some_iff.1 Hdl.out
  have e2 : ((l.take k).map (recH n)).flatMap sone ++ [.string x] = ((l.take (k + 1)).map (recH n)).flatMap sone := by rw [List.take_succ_eq_append_getElem hkl, hkd, HX.out]; simp [sone]
  have O2 := hU (show w2.ownsRow w.heap.size 9 1 v' (k + 1) (((l.take (k + 1)).map (recH n)).flatMap sone) by rw [← e2, List.map_take]; exact hown')
  clear hown' hfrm hmv L0 hkd e2 KO he
  go_wp2_with fail
  go_roundw
  case rel => exact ⟨k + 1, by omega, by go_num, O2.out, he2⟩
  case measure => simp [intOf]; omega
end Go.Proofs.YthnpdoadmglipaaGreat

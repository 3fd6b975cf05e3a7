/-
  Texts of entries and of receipts come back: plain. No condition.
  Records come back from their frames, cut anywhere those that are whole: plain. No condition.
  Frame, Frames on both sides: walks. No condition.
  Evidence: walks. No condition.
  EvidenceOf: walks. Written by program (gen_evof.py). No condition.
  The disk of a broker of nothing, both sides: walks. No condition.
  The hashes of entries and of receipts, as rows of the call's own: walks. Written by program (gen_hashes.py). No condition.
-/
import Derived.Test.YtlgdghpnfclgpaaGreatReadLf
import Derived.Test.YtlgdghpnfclgpaaGreatFrames
import Derived.Test.YtlgdghpnfclgpaaGreatReadRec
import Derived.Test.YtlgdghpnfclgpaaGreatNest
import Derived.Test.YtlgdghpnfclgpaaGreatLeafText
import Derived.Test.YtlgdghpnfclgpaaGreatAppNew
import Derived.Test.YtlgdghpnfclgpaaGreatBrkNew
import Derived.Test.YtlgdghpnfclgpaaGreatBunch
import Derived.Test.YtlgdghpnfclgpaaGreatBroker0
import Derived.Test.YtlgdghpnfclgpaaGreatFrm
namespace Go.Proofs.YtlgdghpnfclgpaaGreat
set_option linter.unusedSimpArgs false
open Go.RowKit
set_option linter.unusedVariables false
def Rest (T : ByteArray) (r : Rd) (Y : ByteArray) : Prop := r.bad = false ∧ ∃ X, T = X ++ Y ∧ X.size = r.pos
theorem Rest.start (T : ByteArray) : Rest T ⟨0, false⟩ T := ⟨rfl, ⟨#[]⟩, by rw [show (⟨#[]⟩ : ByteArray) ++ T = T from ByteArray.empty_append], rfl⟩
theorem part_mid (X a Y : ByteArray) : (X ++ (a ++ Y)).extract X.size (X.size + a.size) = a := by
 have h1 : (X ++ (a ++ Y)).extract X.size (X.size + a.size) = (X ++ (a ++ Y)).extract (X.size + 0) (X.size + a.size) := rfl
 apply ByteArray.ext
 rw [← Array.toList_inj]
 simp [ByteArray.data_extract, ByteArray.data_append, List.drop_append, List.take_append, ← ByteArray.size_data]
theorem Rest.take {T : ByteArray} {r : Rd} {a Y : ByteArray} {n : Nat} (h : Rest T r (a ++ Y)) (hn : a.size = n) : rdTake T r n = a ∧ Rest T (rdNext T r n) Y := by
 obtain ⟨hb, X, rfl, hX⟩ := h
 subst hn
 have hf : rdFails (X ++ (a ++ Y)) r a.size = false := by
  simp only [rdFails, hb, Bool.false_or, decide_eq_false_iff_not, ByteArray.size_append]
  omega
 refine ⟨?_, ?_, X ++ a, ?_, ?_⟩
 · rw [rdTake, hf, ← hX]; exact part_mid X a Y
 · rw [rdNext, hf]; rfl
 · rw [ByteArray.append_assoc]
 · rw [rdNext, hf, ByteArray.size_append, hX]; rfl
theorem Rest.done {T : ByteArray} {r : Rd} (h : Rest T r ⟨#[]⟩) : rdDone T r = true := by
 obtain ⟨hb, X, rfl, hX⟩ := h
 rw [rdDone, hb, show X ++ (⟨#[]⟩ : ByteArray) = X from ByteArray.append_empty, hX]
 simp
end Go.Proofs.YtlgdghpnfclgpaaGreat
namespace Go.Proofs.YtlgdghpnfclgpaaGreat
set_option linter.unusedSimpArgs false
open Go.RowKit
set_option linter.unusedVariables false
def fits1 (T : ByteArray) : Bool := inR T.size 1 1000
def framesT : List ByteArray → ByteArray
 | [] => ⟨#[]⟩
 | T :: l => frameB T ++ framesT l
theorem framesT_append : ∀ (a b : List ByteArray), framesT (a ++ b) = framesT a ++ framesT b
 | [], b => by simp [framesT]; exact ByteArray.empty_append.symm
 | T :: a, b => by rw [List.cons_append, framesT, framesT, framesT_append a b, ByteArray.append_assoc]
theorem Rest.size {U Y : ByteArray} {r : Rd} (h : Rest U r Y) : U.size = r.pos + Y.size := by
 obtain ⟨_, X, rfl, hX⟩ := h
 rw [ByteArray.size_append, hX]
def framesOk (l : List ByteArray) : Bool := decide (l.length ≤ 600) && l.all fits1 && decide ((framesT l).size ≤ 300000)
theorem framesT_next {l : List ByteArray} {k : Nat} {T : ByteArray} (h : l[k]? = some T) : framesT (l.take (k + 1)) = framesT (l.take k) ++ frameB T := by
 obtain ⟨hk, rfl⟩ := List.getElem?_eq_some_iff.1 h
 rw [List.take_succ_eq_append_getElem hk, framesT_append]
 simp only [framesT]
 rw [append_nil]
theorem framesOk_yes {l : List ByteArray} (h0 : l.length ≤ 600) (h1 : ∀ T ∈ l, fits1 T = true) (h2 : (framesT l).size ≤ 300000) : framesOk l = true := by
 simp only [framesOk, Bool.and_eq_true, decide_eq_true_eq, List.all_eq_true]
 exact ⟨⟨h0, h1⟩, h2⟩
end Go.Proofs.YtlgdghpnfclgpaaGreat
namespace Go.Proofs.YtlgdghpnfclgpaaGreat
set_option linter.unusedSimpArgs false
open Go.RowKit
set_option linter.unusedVariables false
structure FInv (l : List ByteArray) (k : Nat) : Prop where
 le : k ≤ l.length
 fits : ∀ T ∈ l.take k, fits1 T = true
 small : (framesT (l.take k)).size ≤ 300000
theorem FInv.start (l : List ByteArray) : FInv l 0 := ⟨Nat.zero_le _, by simp, by simp [framesT]; exact Nat.zero_le _⟩
theorem FInv.next {l : List ByteArray} {k : Nat} {T : ByteArray} (h : FInv l k) (hT : l[k]? = some T) (hf : fits1 T = true) (hs : (framesT (l.take k)).size + (frameB T).size ≤ 300000) : FInv l (k + 1) := by
 obtain ⟨hk, he⟩ := List.getElem?_eq_some_iff.1 hT
 refine ⟨hk, fun x hx => ?_, by rw [framesT_next hT, ByteArray.size_append]; exact hs⟩
 rw [List.take_succ_eq_append_getElem hk] at hx
 rcases List.mem_append.1 hx with hx | hx
 · exact h.fits x hx
 · obtain rfl : x = l[k] := by simpa using hx
   rw [he]; exact hf
theorem FInv.done {l : List ByteArray} (h : FInv l l.length) (hl : l.length ≤ 600) : framesOk l = true := by
 obtain ⟨_, h1, h2⟩ := h
 rw [List.take_length] at h1 h2
 exact framesOk_yes hl h1 h2
end Go.Proofs.YtlgdghpnfclgpaaGreat
namespace Go.Proofs.YtlgdghpnfclgpaaGreat
set_option linter.unusedSimpArgs false
open Go.RowKit
set_option linter.unusedVariables false
end Go.Proofs.YtlgdghpnfclgpaaGreat
namespace Go.Proofs.YtlgdghpnfclgpaaGreat
set_option linter.unusedSimpArgs false
open Go.RowKit
set_option linter.unusedVariables false
end Go.Proofs.YtlgdghpnfclgpaaGreat
namespace Go.Proofs.YtlgdghpnfclgpaaGreat
set_option linter.unusedSimpArgs false
open Go.RowKit
set_option linter.unusedVariables false
theorem info_string : (Tryz.prog.info? 9).map (fun i => (i.zero, i.size, i.bytes)) = some (some (.string ⟨#[]⟩), 1, 16) := by kernel_rfl
end Go.Proofs.YtlgdghpnfclgpaaGreat
namespace Go.Proofs.YtlgdghpnfclgpaaGreat
set_option linter.unusedSimpArgs false
open Go.RowKit
set_option linter.unusedVariables false
theorem rec_at {l : List ReceiptD} {w : World} {b off : Nat} {k : Nat} {d : ReceiptD} (hc : ∀ j u, (l.flatMap ReceiptD.cells)[k * 3 + j]? = some u → w.cell? ⟨b, off + k * 3 + j, none⟩ = some u) (hd : l[k]? = some d) :
 w.cell? ⟨b, off + k * 3, none⟩ = some (.string d.reader) ∧ w.cell? ⟨b, off + k * 3 + 1, none⟩ = some (.string d.topic) ∧ w.cell? ⟨b, off + k * 3 + 2, none⟩ = some (.int .i64 d.index) :=
 ⟨hc 0 _ (flat_at _ 3 ReceiptD.cells_length l k 0 d hd (by omega)), hc 1 _ (flat_at _ 3 ReceiptD.cells_length l k 1 d hd (by omega)), hc 2 _ (flat_at _ 3 ReceiptD.cells_length l k 2 d hd (by omega))⟩
set_option maxHeartbeats 2000000 in
set_option maxRecDepth 100000 in
theorem hashesOf_any (n : Int) (A : Option Addr) (c : Nat) (l : List EntryD) (w : World) (hr : SlF AnyB EntryD.cells 5 w A l c) (hok : ∀ d ∈ l, d.Ok) (hl : l.length ≤ 1048576) :
 Calls Tryz.prog 145 #[.int .i64 n, .agg #[.slice A l.length c]] w fun e w' => ∃ v, e = .returned v ∧ w'.ownsRow w.heap.size 9 1 v l.length ((l.map (leafH n)).flatMap sone) ∧ Ext w w' := by
 obtain ⟨i0, hi, hz0, hz1, hz2⟩ := info_parts info_string
 have HR := Lib.hid hr
 have Hok := Lib.hid hok
 have He := Lib.hid (Ext.new (Below.refl w.heap.size w) (.cells #[.slice A l.length c] 51))
 clear hr hok
 go_enter Tryz.func145, Tryz.ntmps145
 go_wp2_with fail
 go_loopw [5, 13] (fun v i wr => ∃ k : Nat, k ≤ l.length ∧ i = .int .i64 k ∧ wr.ownsRow w.heap.size 9 1 v k (((l.take k).map (leafH n)).flatMap sone) ∧ Ext w wr) (fun _ i _ => l.length - (intOf i).toNat)
 case atStart => exact ⟨0, Nat.zero_le _, rfl, World.ownsRow_nil _ _ _ _, He.out⟩
 case round =>
  clear He
  obtain ⟨k, hk, rfl, hown, he⟩ := hrel
  obtain ⟨V, cv, rfl, hnc⟩ := ownsRow_form hown
  have KO := Lib.hid hown; clear hown
  by_cases hlt : k < l.length
  case neg =>
   obtain rfl : k = l.length := by omega
   go_wp2_with fail
   go_ret
   exact ⟨_, rfl, by have := KO.out; rwa [List.take_length] at this, he⟩
  obtain ⟨b, off, rfl, hb, hc⟩ := Reads.at_ (HR.out.ext he).reads (k := k) hlt
  obtain ⟨d, hd⟩ : ∃ d, d = l[k] := ⟨_, rfl⟩
  have hdl : l[k]? = some d := by rw [hd]; exact List.getElem?_eq_getElem hlt
  have hdo := Hok.out d (List.mem_of_getElem? hdl)
  obtain ⟨c0, c1, c2, c3, c4⟩ := entry_at hc hdl
  have HDO := Lib.hid hdo; have Hdl := Lib.hid hdl
  clear hc hd hdl hdo
  go_wp2_with fail
  refine (implLeafHash_any n d _ HDO.out).mono ?_
  rintro e w1 ⟨rfl, h1⟩
  have h2 : Ext wr w1 := by first | exact h1 | exact Ext.next (Ext.new (Below.refl wr.heap.size wr) _) h1
  replace he := he.next h2; replace KO := Lib.hid (ownsRow_ext KO.out h2)
  clear h1 h2 c0 c1 c2 c3 c4
  have hw1 := he.size
  obtain ⟨x, hx⟩ : ∃ x, x = leafH n d := ⟨_, rfl⟩
  rw [← hx]
  have HX := Lib.hid hx; clear hx
  go_wp2_with (at_builtin; refine wpList_append_moved _ rfl _ _ 22 rfl w.heap.size 9 i0 _ 1 16 Tryz.underlying22 hi hz0 hz1 hz2 rfl (by decide) _ _ _ rfl (KO.out.alloc _) ⟨w1.heap.size, 0, none⟩ 1 1 [.string x] rfl rfl ?c1 ?c2 ?c3 ?c4 ?c5 ?_)
  case c1 => exact (Blk.new w1 9 #[.string x]).adds
  case c2 => intro u hu; simp at hu; subst hu; rfl
  case c3 => unfold maxLen; omega
  case c4 => omega
  case c5 => simp; omega
  intro v' w2 hown' hfrm hmv
  have L0 := Lib.hid KO.out.lt
  have he2 : Ext w w2 := hfrm.toExt (he.new _) (fun y hy e => by have := (L0.out _ e).1; omega)
  obtain ⟨hkl, hkd⟩ := List.getElem?_eq_some_iff.1 Hdl.out
  have e2 : ((l.take k).map (leafH n)).flatMap sone ++ [.string x] = ((l.take (k + 1)).map (leafH n)).flatMap sone := by rw [List.take_succ_eq_append_getElem hkl, hkd, HX.out]; simp [sone]
  have O2 := Lib.hid (show w2.ownsRow w.heap.size 9 1 v' (k + 1) (((l.take (k + 1)).map (leafH n)).flatMap sone) by rw [← e2, List.map_take]; exact hown')
  clear hown' hfrm hmv L0 hkd e2 KO he
  go_wp2_with fail
  go_roundw
  case rel => exact ⟨k + 1, by omega, by go_num, O2.out, he2⟩
  case measure => simp [intOf]; omega
set_option maxHeartbeats 2000000 in
set_option maxRecDepth 100000 in
theorem l09Hashes_any (n : Int) (A : Option Addr) (c : Nat) (l : List EntryD) (w : World) (hr : SlF AnyB EntryD.cells 5 w A l c) (hok : ∀ d ∈ l, d.Ok) (hl : l.length ≤ 1048576) :
 Calls Tryz.prog 72 #[.int .i64 n, .slice A l.length c] w fun e w' => ∃ v, e = .returned v ∧ w'.ownsRow w.heap.size 9 1 v l.length ((l.map (leafH n)).flatMap sone) ∧ Ext w w' := by
 obtain ⟨i0, hi, hz0, hz1, hz2⟩ := info_parts info_string
 have HR := Lib.hid hr
 have Hok := Lib.hid hok
 have He := Lib.hid (Ext.new (Below.refl w.heap.size w) (.cells #[] 9))
 have OE := Lib.hid (ownsRow_empty w 9 1)
 clear hr hok
 go_enter Tryz.func72, Tryz.ntmps72
 go_wp2_with fail
 go_loopw [5, 6] (fun v i wr => ∃ k : Nat, k ≤ l.length ∧ i = .int .i64 k ∧ wr.ownsRow w.heap.size 9 1 v k (((l.take k).map (leafH n)).flatMap sone) ∧ Ext w wr) (fun _ i _ => l.length - (intOf i).toNat)
 case atStart => exact ⟨0, Nat.zero_le _, rfl, OE.out, He.out⟩
 case round =>
  clear He
  obtain ⟨k, hk, rfl, hown, he⟩ := hrel
  obtain ⟨V, cv, rfl, hnc⟩ := ownsRow_form hown
  have KO := Lib.hid hown; clear hown
  by_cases hlt : k < l.length
  case neg =>
   obtain rfl : k = l.length := by omega
   go_wp2_with fail
   go_ret
   exact ⟨_, rfl, by have := KO.out; rwa [List.take_length] at this, he⟩
  obtain ⟨b, off, rfl, hb, hc⟩ := Reads.at_ (HR.out.ext he).reads (k := k) hlt
  obtain ⟨d, hd⟩ : ∃ d, d = l[k] := ⟨_, rfl⟩
  have hdl : l[k]? = some d := by rw [hd]; exact List.getElem?_eq_getElem hlt
  have hdo := Hok.out d (List.mem_of_getElem? hdl)
  obtain ⟨c0, c1, c2, c3, c4⟩ := entry_at hc hdl
  have HDO := Lib.hid hdo; have Hdl := Lib.hid hdl
  clear hc hd hdl hdo
  go_wp2_with fail
  refine (specLeafHash_any n d _ HDO.out).mono ?_
  rintro e w1 ⟨rfl, h1⟩
  have h2 : Ext wr w1 := by first | exact h1 | exact Ext.next (Ext.new (Below.refl wr.heap.size wr) _) h1
  replace he := he.next h2; replace KO := Lib.hid (ownsRow_ext KO.out h2)
  clear h1 h2 c0 c1 c2 c3 c4
  have hw1 := he.size
  obtain ⟨x, hx⟩ : ∃ x, x = leafH n d := ⟨_, rfl⟩
  rw [← hx]
  have HX := Lib.hid hx; clear hx
  go_wp2_with (at_builtin; refine wpList_append_moved _ rfl _ _ 22 rfl w.heap.size 9 i0 _ 1 16 Tryz.underlying22 hi hz0 hz1 hz2 rfl (by decide) _ _ _ rfl (KO.out.alloc _) ⟨w1.heap.size, 0, none⟩ 1 1 [.string x] rfl rfl ?c1 ?c2 ?c3 ?c4 ?c5 ?_)
  case c1 => exact (Blk.new w1 9 #[.string x]).adds
  case c2 => intro u hu; simp at hu; subst hu; rfl
  case c3 => unfold maxLen; omega
  case c4 => omega
  case c5 => simp; omega
  intro v' w2 hown' hfrm hmv
  have L0 := Lib.hid KO.out.lt
  have he2 : Ext w w2 := hfrm.toExt (he.new _) (fun y hy e => by have := (L0.out _ e).1; omega)
  obtain ⟨hkl, hkd⟩ := List.getElem?_eq_some_iff.1 Hdl.out
  have e2 : ((l.take k).map (leafH n)).flatMap sone ++ [.string x] = ((l.take (k + 1)).map (leafH n)).flatMap sone := by rw [List.take_succ_eq_append_getElem hkl, hkd, HX.out]; simp [sone]
  have O2 := Lib.hid (show w2.ownsRow w.heap.size 9 1 v' (k + 1) (((l.take (k + 1)).map (leafH n)).flatMap sone) by rw [← e2, List.map_take]; exact hown')
  clear hown' hfrm hmv L0 hkd e2 KO he
  go_wp2_with fail
  go_roundw
  case rel => exact ⟨k + 1, by omega, by go_num, O2.out, he2⟩
  case measure => simp [intOf]; omega
set_option maxHeartbeats 2000000 in
set_option maxRecDepth 100000 in
theorem receiptHashes_any (n : Int) (A : Option Addr) (c : Nat) (l : List ReceiptD) (w : World) (hr : SlF AnyB ReceiptD.cells 3 w A l c) (hok : ∀ d ∈ l, d.Ok) (hl : l.length ≤ 1048576) :
 Calls Tryz.prog 146 #[.int .i64 n, .slice A l.length c] w fun e w' => ∃ v, e = .returned v ∧ w'.ownsRow w.heap.size 9 1 v l.length ((l.map (recH n)).flatMap sone) ∧ Ext w w' := by
 obtain ⟨i0, hi, hz0, hz1, hz2⟩ := info_parts info_string
 have HR := Lib.hid hr
 have Hok := Lib.hid hok
 have He := Lib.hid (Below.refl w.heap.size w)
 clear hr hok
 go_enter Tryz.func146, Tryz.ntmps146
 go_wp2_with fail
 go_loopw [5, 12] (fun v i wr => ∃ k : Nat, k ≤ l.length ∧ i = .int .i64 k ∧ wr.ownsRow w.heap.size 9 1 v k (((l.take k).map (recH n)).flatMap sone) ∧ Ext w wr) (fun _ i _ => l.length - (intOf i).toNat)
 case atStart => exact ⟨0, Nat.zero_le _, rfl, World.ownsRow_nil _ _ _ _, He.out⟩
 case round =>
  clear He
  obtain ⟨k, hk, rfl, hown, he⟩ := hrel
  obtain ⟨V, cv, rfl, hnc⟩ := ownsRow_form hown
  have KO := Lib.hid hown; clear hown
  by_cases hlt : k < l.length
  case neg =>
   obtain rfl : k = l.length := by omega
   go_wp2_with fail
   go_ret
   exact ⟨_, rfl, by have := KO.out; rwa [List.take_length] at this, he⟩
  obtain ⟨b, off, rfl, hb, hc⟩ := Reads.at_ (HR.out.ext he).reads (k := k) hlt
  obtain ⟨d, hd⟩ : ∃ d, d = l[k] := ⟨_, rfl⟩
  have hdl : l[k]? = some d := by rw [hd]; exact List.getElem?_eq_getElem hlt
  have hdo := Hok.out d (List.mem_of_getElem? hdl)
  obtain ⟨c0, c1, c2⟩ := rec_at hc hdl
  have HDO := Lib.hid hdo; have Hdl := Lib.hid hdl
  clear hc hd hdl hdo
  go_wp2_with fail
  refine (implReceiptHash_any n d _ HDO.out).mono ?_
  rintro e w1 ⟨rfl, h1⟩
  have h2 : Ext wr w1 := by first | exact h1 | exact Ext.next (Ext.new (Below.refl wr.heap.size wr) _) h1
  replace he := he.next h2; replace KO := Lib.hid (ownsRow_ext KO.out h2)
  clear h1 h2 c0 c1 c2
  have hw1 := he.size
  obtain ⟨x, hx⟩ : ∃ x, x = recH n d := ⟨_, rfl⟩
  rw [← hx]
  have HX := Lib.hid hx; clear hx
  go_wp2_with (at_builtin; refine wpList_append_moved _ rfl _ _ 22 rfl w.heap.size 9 i0 _ 1 16 Tryz.underlying22 hi hz0 hz1 hz2 rfl (by decide) _ _ _ rfl (KO.out.alloc _) ⟨w1.heap.size, 0, none⟩ 1 1 [.string x] rfl rfl ?c1 ?c2 ?c3 ?c4 ?c5 ?_)
  case c1 => exact (Blk.new w1 9 #[.string x]).adds
  case c2 => intro u hu; simp at hu; subst hu; rfl
  case c3 => unfold maxLen; omega
  case c4 => omega
  case c5 => simp; omega
  intro v' w2 hown' hfrm hmv
  have L0 := Lib.hid KO.out.lt
  have he2 : Ext w w2 := hfrm.toExt (he.new _) (fun y hy e => by have := (L0.out _ e).1; omega)
  obtain ⟨hkl, hkd⟩ := List.getElem?_eq_some_iff.1 Hdl.out
  have e2 : ((l.take k).map (recH n)).flatMap sone ++ [.string x] = ((l.take (k + 1)).map (recH n)).flatMap sone := by rw [List.take_succ_eq_append_getElem hkl, hkd, HX.out]; simp [sone]
  have O2 := Lib.hid (show w2.ownsRow w.heap.size 9 1 v' (k + 1) (((l.take (k + 1)).map (recH n)).flatMap sone) by rw [← e2, List.map_take]; exact hown')
  clear hown' hfrm hmv L0 hkd e2 KO he
  go_wp2_with fail
  go_roundw
  case rel => exact ⟨k + 1, by omega, by go_num, O2.out, he2⟩
  case measure => simp [intOf]; omega
set_option maxHeartbeats 2000000 in
set_option maxRecDepth 100000 in
theorem l12Taken_any (n : Int) (A : Option Addr) (c : Nat) (l : List ReceiptD) (w : World) (hr : SlF AnyB ReceiptD.cells 3 w A l c) (hok : ∀ d ∈ l, d.Ok) (hl : l.length ≤ 1048576) :
 Calls Tryz.prog 73 #[.int .i64 n, .slice A l.length c] w fun e w' => ∃ v, e = .returned v ∧ w'.ownsRow w.heap.size 9 1 v l.length ((l.map (recH n)).flatMap sone) ∧ Ext w w' := by
 obtain ⟨i0, hi, hz0, hz1, hz2⟩ := info_parts info_string
 have HR := Lib.hid hr
 have Hok := Lib.hid hok
 have He := Lib.hid (Ext.new (Below.refl w.heap.size w) (.cells #[] 9))
 have OE := Lib.hid (ownsRow_empty w 9 1)
 clear hr hok
 go_enter Tryz.func73, Tryz.ntmps73
 go_wp2_with fail
 go_loopw [5, 6] (fun v i wr => ∃ k : Nat, k ≤ l.length ∧ i = .int .i64 k ∧ wr.ownsRow w.heap.size 9 1 v k (((l.take k).map (recH n)).flatMap sone) ∧ Ext w wr) (fun _ i _ => l.length - (intOf i).toNat)
 case atStart => exact ⟨0, Nat.zero_le _, rfl, OE.out, He.out⟩
 case round =>
  clear He
  obtain ⟨k, hk, rfl, hown, he⟩ := hrel
  obtain ⟨V, cv, rfl, hnc⟩ := ownsRow_form hown
  have KO := Lib.hid hown; clear hown
  by_cases hlt : k < l.length
  case neg =>
   obtain rfl : k = l.length := by omega
   go_wp2_with fail
   go_ret
   exact ⟨_, rfl, by have := KO.out; rwa [List.take_length] at this, he⟩
  obtain ⟨b, off, rfl, hb, hc⟩ := Reads.at_ (HR.out.ext he).reads (k := k) hlt
  obtain ⟨d, hd⟩ : ∃ d, d = l[k] := ⟨_, rfl⟩
  have hdl : l[k]? = some d := by rw [hd]; exact List.getElem?_eq_getElem hlt
  have hdo := Hok.out d (List.mem_of_getElem? hdl)
  obtain ⟨c0, c1, c2⟩ := rec_at hc hdl
  have HDO := Lib.hid hdo; have Hdl := Lib.hid hdl
  clear hc hd hdl hdo
  go_wp2_with fail
  refine (specReceiptHash_any n d _ HDO.out).mono ?_
  rintro e w1 ⟨rfl, h1⟩
  have h2 : Ext wr w1 := by first | exact h1 | exact Ext.next (Ext.new (Below.refl wr.heap.size wr) _) h1
  replace he := he.next h2; replace KO := Lib.hid (ownsRow_ext KO.out h2)
  clear h1 h2 c0 c1 c2
  have hw1 := he.size
  obtain ⟨x, hx⟩ : ∃ x, x = recH n d := ⟨_, rfl⟩
  rw [← hx]
  have HX := Lib.hid hx; clear hx
  go_wp2_with (at_builtin; refine wpList_append_moved _ rfl _ _ 22 rfl w.heap.size 9 i0 _ 1 16 Tryz.underlying22 hi hz0 hz1 hz2 rfl (by decide) _ _ _ rfl (KO.out.alloc _) ⟨w1.heap.size, 0, none⟩ 1 1 [.string x] rfl rfl ?c1 ?c2 ?c3 ?c4 ?c5 ?_)
  case c1 => exact (Blk.new w1 9 #[.string x]).adds
  case c2 => intro u hu; simp at hu; subst hu; rfl
  case c3 => unfold maxLen; omega
  case c4 => omega
  case c5 => simp; omega
  intro v' w2 hown' hfrm hmv
  have L0 := Lib.hid KO.out.lt
  have he2 : Ext w w2 := hfrm.toExt (he.new _) (fun y hy e => by have := (L0.out _ e).1; omega)
  obtain ⟨hkl, hkd⟩ := List.getElem?_eq_some_iff.1 Hdl.out
  have e2 : ((l.take k).map (recH n)).flatMap sone ++ [.string x] = ((l.take (k + 1)).map (recH n)).flatMap sone := by rw [List.take_succ_eq_append_getElem hkl, hkd, HX.out]; simp [sone]
  have O2 := Lib.hid (show w2.ownsRow w.heap.size 9 1 v' (k + 1) (((l.take (k + 1)).map (recH n)).flatMap sone) by rw [← e2, List.map_take]; exact hown')
  clear hown' hfrm hmv L0 hkd e2 KO he
  go_wp2_with fail
  go_roundw
  case rel => exact ⟨k + 1, by omega, by go_num, O2.out, he2⟩
  case measure => simp [intOf]; omega
end Go.Proofs.YtlgdghpnfclgpaaGreat

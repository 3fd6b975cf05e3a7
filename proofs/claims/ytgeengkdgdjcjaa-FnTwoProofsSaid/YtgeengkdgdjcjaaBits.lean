/-
  ReadsTk; Root5; Bits: No condition.
-/
import Derived.Test.YtgeengkdgdjcjaaMem
import Derived.Test.YtgeengkdgdjcjaaTreeP
import Derived.Test.YtgeengkdgdjcjaaSpecDigest
import Derived.Test.YtgeengkdgdjcjaaNString
import Derived.Test.YtgeengkdgdjcjaaAppNew
import Derived.Laws.MathBits
namespace Go.Proofs.Ytgeengkdgdjcjaa
set_option linter.unusedSimpArgs false
open Go.RowKit
theorem reads_take {α : Type} {f : α → List Value} {size : Nat} {w : World} {B : Nat} {A : Option Addr} {l : List α} (hf : ∀ a, (f a).length = size) (h : ReadsL w B f size A l) (k : Nat) (hk : k ≤ l.length) : ReadsL w B f size A (l.take k) := by
 refine ⟨flat_len f size hf _, fun hn => ?_⟩
 obtain ⟨b, off, e, hb, hc⟩ := h.2 (by rw [List.length_take] at hn; omega)
 refine ⟨b, off, e, hb, fun j u hu => hc j u ?_⟩
 conv => lhs; rw [← List.take_append_drop k l, List.flatMap_append]
 rw [List.getElem?_append_left (List.getElem?_eq_some_iff.1 hu).1]
 exact hu
set_option linter.unusedVariables false
theorem slf_takeT {w : World} {b off c : Nat} {l : List ByteArray} (h : SlF AnyB sone 1 w (some ⟨b, off, none⟩) l c) (k : Nat) (hk : k ≤ l.length) : SlF AnyB sone 1 w (some ⟨b, off, none⟩) (l.take k) c :=
 ⟨by have := h.le; rw [List.length_take]; omega, h.cap, reads_take (f := sone) (size := 1) (fun _ => rfl) h.reads k hk, fun _ _ _ => trivial⟩
theorem slf_dropT {w : World} {b off c : Nat} {l : List ByteArray} (h : SlF AnyB sone 1 w (some ⟨b, off, none⟩) l c) (k : Nat) (hk : k < l.length) : SlF AnyB sone 1 w (some ⟨b, off + k, none⟩) (l.drop k) (c - k) := by
 refine ⟨by have := h.le; rw [List.length_drop]; omega, by have := h.cap; omega, ⟨flat_len sone 1 (fun _ => rfl) _, fun hn => ?_⟩, fun _ _ _ => trivial⟩
 obtain ⟨b', off', e, hb, hc⟩ := h.reads.2 (by omega)
 cases e
 refine ⟨b, off + k, rfl, hb, fun j u hu => ?_⟩
 have e1 : l.flatMap sone = (l.take k).flatMap sone ++ (l.drop k).flatMap sone := by rw [← List.flatMap_append, List.take_append_drop]
 have e2 : ((l.take k).flatMap sone).length = k := by rw [flat_len sone 1 (fun _ => rfl) _, List.length_take]; omega
 have := hc (k + j) u (by rw [e1, List.getElem?_append_right (by omega), e2, Nat.add_sub_cancel_left]; exact hu)
 rw [Nat.add_assoc]; exact this
theorem specNodeHash_good (n : Int) (a b : ByteArray) (w : World) (hn : inR n 1 32 = true) (ha : a.size = n.toNat) (hb : b.size = n.toNat) : Calls Try.prog 36 #[.int .i64 n, .string a, .string b] w fun e w' => e = .returned (.tuple #[.string (nodeT n (a ++ b)), .bool true]) ∧ Ext w w' := by
 have hn2 := inR_true hn
 have h1 : (a.size : Int) = n := by omega
 have h2 : (b.size : Int) = n := by omega
 have h3 : (a ++ b).size ≤ 4000 := by rw [ByteArray.size_append]; omega
 have E : digestOk n 1 (a ++ b) = true := by rw [digestOk, hn]; simp [inR]; rw [ByteArray.size_append] at h3; omega
 have E := hU E
 have ha2 : a.size ≤ 1000 := by omega
 have hb2 : b.size ≤ 1000 := by omega
 have hs : (a ++ b).size ≤ maxLen := by unfold maxLen; omega
 clear ha hb h3 hn2
 go_enter Try.func36, Try.ntmps36
 go_wp2_with fail
 refine (l02Width_any n _).mono ?_
 rintro e w1 ⟨rfl, rfl⟩
 go_wp2_with fail
 refine (specDigest_any n 1 (a ++ b) _ hs).mono ?_
 rintro e w1 ⟨rfl, he⟩
 rw [E.out]
 go_wp2_with fail
 go_ret2
 exact ⟨rfl, he⟩
set_option maxHeartbeats 8000000
set_option maxRecDepth 1000000
theorem log2_high {x : Nat} (h0 : 256 ≤ x) (h1 : x < 512) : Nat.log2 x = 8 := (Nat.log2_eq_iff (by omega)).2 ⟨by omega, by omega⟩
theorem bits_low (k : Nat) (h : k ≤ 8) : wrap64 (wrap64 (k : Int)) = (k : Int) := by unfold wrap64; omega
theorem Len64_any (x : Nat) (w : World) (h0 : 0 < x) (hx : x < 512) : Calls Try.prog 69 #[.int .u64 (x : Int)] w fun e w' => e = .returned (.int .i64 ((Nat.log2 x + 1 : Nat) : Int)) ∧ w = w' := by
 have d1 : decide ((x : Int) ≥ 4294967296) = false := by rw [decide_eq_false_iff_not]; omega
 go_enter Try.func69, Try.ntmps69
 go_wp2_with fail
 · go_ret
   refine ⟨ret_int ?_, rfl⟩
   have h1 : 256 ≤ x := by omega
   have h2 : x / 256 = 1 := by omega
   rw [log2_high h1 hx, len8tab_get (x / 256) _, h2, show bitLen 1 = 1 by decide +kernel]
   unfold wrap64
   omega
 · go_ret
   refine ⟨ret_int ?_, rfl⟩
   have h1 : x < 256 := by omega
   rw [len8tab_get x _, bits_low _ (bitLen_le8 x h1), bitLen, if_neg (by omega)]
end Go.Proofs.Ytgeengkdgdjcjaa

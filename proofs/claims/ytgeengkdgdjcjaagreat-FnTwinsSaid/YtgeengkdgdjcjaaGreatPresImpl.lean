/-
  PresImpl: No condition.
-/
import Derived.Test.YtgeengkdgdjcjaaGreatItemIn
namespace Go.Proofs.YtgeengkdgdjcjaaGreat
set_option maxHeartbeats 4000000
set_option maxRecDepth 100000
set_option linter.unusedSimpArgs false
open Go.RowKit
set_option linter.unusedVariables false
theorem ret_vb {a : Value} {p q : Bool} (h : p = q) : Ending.returned (.tuple #[a, .bool p]) = .returned (.tuple #[a, .bool q]) := by rw [h]
theorem pathPres_any (n tag : Int) (text : ByteArray) (size a : Int) (A : Option Addr) (c : Nat) (l : List ByteArray) (w : World) (ht : text.size ≤ 1000) (hlc : l.length ≤ c) (hl : l.length ≤ 1048576) (hr : ReadsL w w.heap.size sone 1 A l) :
 Calls Tryz.prog 87 #[.int .i64 n, .int .i64 tag, .string text, .int .i64 size, .int .i64 a, .slice A l.length c] w fun e w' => ∃ v, e = .returned v ∧ OwnP w w' v (pathP n tag text size a l) ∧ Ext w w' := by
 have hdg := digest_le n tag text
 have HS := hU (textsIn_small n size a (digest n tag text) l)
 have HP := hU (show pathP n tag text size a l = [⟨tag, text⟩] ++ nodesP (textsIn n size a (digest n tag text) l) from rfl)
 go_enter Tryz.func87, Tryz.ntmps87
 go_wp2_with fail
 refine (Digest_any n tag text _ (small_max ht)).mono ?_
 rintro e w1 ⟨rfl, he⟩
 go_wp2_with fail
 refine (implTextsIn_any n size a (digest n tag text) A c l _ (by unfold maxLen; omega) hlc hl (hr.ext he)).mono ?_
 rintro e w2 ⟨v, rfl, ho, h1⟩
 replace he := he.next h1; clear h1
 have O2 := hU (World.ownsRow.alloc ho (.cells #[.int .i64 tag, .string text] 88)); clear ho
 have KB := hU (show OwnP w (w2.alloc (.cells #[.int .i64 tag, .string text] 88)) (.slice (some ⟨w2.heap.size, 0, none⟩) 1 1) [⟨tag, text⟩] from Blk.ownsRow (xs := [.int .i64 tag, .string text]) (Blk.new w2 88 #[.int .i64 tag, .string text]) 1 2 w.heap.size he.size rfl (by decide))
 go_wp2_with fail
 refine (nodePres_any w _ _ _ _ _ _ (he.new _) KB.out O2.out (by have := HS.out.1; simp only [List.length_cons, List.length_nil]; omega)).mono ?_
 rintro e w3 ⟨v3, rfl, o3, h3⟩
 have O3 := hU o3; clear o3
 go_wp2_with fail
 go_ret
 exact ⟨_, rfl, by rw [HP.out]; exact O3.out, h3⟩
theorem implPresOf_any (n : Int) (d : ItemD) (A0 : Option Addr) (c0 : Nat) (A1 : Option Addr) (c1 : Nat) (w : World) (hok : d.Ok) (s0 : SlF AnyB sone 1 w A0 d.proof c0) (s1 : SlF AnyB sone 1 w A1 d.more c1) (hf : ∀ n ∈ d.lens, n ≤ 1048576) :
 Calls Tryz.prog 30 #[.int .i64 n, .agg #[.int .i64 d.kind, .int .i64 d.old.number, .int .i64 d.old.size, .string d.old.root, .int .i64 d.old.taken, .string d.old.takenRoot, .int .i64 d.head.number, .int .i64 d.head.size, .string d.head.root, .int .i64 d.head.taken, .string d.head.takenRoot, .int .i64 d.leaf, .string d.entry.topic, .int .i64 d.entry.index, .int .i64 d.entry.time, .string d.entry.key, .string d.entry.body, .string d.receipt.reader, .string d.receipt.topic, .int .i64 d.receipt.index, .slice A0 d.proof.length c0, .slice A1 d.more.length c1]] w fun e w' => ∃ v, e = .returned (.tuple #[v, .bool (itemOk n d)]) ∧ OwnP w w' v (presOf n d) ∧ Ext w w' := by
 obtain ⟨i0, hi, hz0, hz1, hz2⟩ := info_parts info_pre
 have l0 : d.proof.length ≤ 1048576 := hf _ (by simp [ItemD.lens])
 have l1 : d.more.length ≤ 1048576 := hf _ (by simp [ItemD.lens])
 have K0 := Blk.new w 77 #[.int .i64 d.kind, .int .i64 d.old.number, .int .i64 d.old.size, .string d.old.root, .int .i64 d.old.taken, .string d.old.takenRoot, .int .i64 d.head.number, .int .i64 d.head.size, .string d.head.root, .int .i64 d.head.taken, .string d.head.takenRoot, .int .i64 d.leaf, .string d.entry.topic, .int .i64 d.entry.index, .int .i64 d.entry.time, .string d.entry.key, .string d.entry.body, .string d.receipt.reader, .string d.receipt.topic, .int .i64 d.receipt.index, .slice A0 d.proof.length c0, .slice A1 d.more.length c1]
 have he := Ext.new (Below.refl w.heap.size w) (.cells #[.int .i64 d.kind, .int .i64 d.old.number, .int .i64 d.old.size, .string d.old.root, .int .i64 d.old.taken, .string d.old.takenRoot, .int .i64 d.head.number, .int .i64 d.head.size, .string d.head.root, .int .i64 d.head.taken, .string d.head.takenRoot, .int .i64 d.leaf, .string d.entry.topic, .int .i64 d.entry.index, .int .i64 d.entry.time, .string d.entry.key, .string d.entry.body, .string d.receipt.reader, .string d.receipt.topic, .int .i64 d.receipt.index, .slice A0 d.proof.length c0, .slice A1 d.more.length c1] 77)
 obtain ⟨D, hD⟩ : ∃ D : List Value, D = [.int .i64 d.kind, .int .i64 d.old.number, .int .i64 d.old.size, .string d.old.root, .int .i64 d.old.taken, .string d.old.takenRoot, .int .i64 d.head.number, .int .i64 d.head.size, .string d.head.root, .int .i64 d.head.taken, .string d.head.takenRoot, .int .i64 d.leaf, .string d.entry.topic, .int .i64 d.entry.index, .int .i64 d.entry.time, .string d.entry.key, .string d.entry.body, .string d.receipt.reader, .string d.receipt.topic, .int .i64 d.receipt.index, .slice A0 d.proof.length c0, .slice A1 d.more.length c1] := ⟨_, rfl⟩
 have SI := hU (show ItemD.In AnyB w D d from ⟨A0, c0, A1, c1, hD, s0, s1⟩)
 have RG := hU (show (w.alloc (.cells #[.int .i64 d.kind, .int .i64 d.old.number, .int .i64 d.old.size, .string d.old.root, .int .i64 d.old.taken, .string d.old.takenRoot, .int .i64 d.head.number, .int .i64 d.head.size, .string d.head.root, .int .i64 d.head.taken, .string d.head.takenRoot, .int .i64 d.leaf, .string d.entry.topic, .int .i64 d.entry.index, .int .i64 d.entry.time, .string d.entry.key, .string d.entry.body, .string d.receipt.reader, .string d.receipt.topic, .int .i64 d.receipt.index, .slice A0 d.proof.length c0, .slice A1 d.more.length c1] 77)).rangeAt w.heap.size 0 D by rw [hD]; exact K0.range)
 have HL := hU (ItemD.in_len SI.out)
 have IO : Hid (∀ (w : World), ItemD.In AnyB w D d → Calls Tryz.prog 27 #[.int .i64 n, .agg D.toArray] w fun e w' => e = .returned (.bool (itemOk n d)) ∧ Ext w w') := hU (fun w h => by obtain ⟨Q0, q0, Q1, q1, hq, t0, t1⟩ := h; rw [hq]; exact implItemOk_any n d Q0 q0 Q1 q1 w hok t0 t1 hf)
 have Hok := hU hok; have S0 := hU s0; have S1 := hU s1
 clear hok s0 s1 hD hf
 have lg := K0.lt
 go_enter Tryz.func30, Tryz.ntmps30
 go_wp2_with (refine wpList_load_mid rfl 77 _ rfl w.heap.size 0 rfl D _ RG.out Tryz.underlying77 rfl (by rw [HL.out]; kernel_rfl) ?_)
 obtain ⟨g, hg⟩ : ∃ g, g = w.heap.size := ⟨_, rfl⟩
 rw [← hg] at RG lg K0
 rw [← hg]
 clear hg
 generalize w.alloc (.cells #[.int .i64 d.kind, .int .i64 d.old.number, .int .i64 d.old.size, .string d.old.root, .int .i64 d.old.taken, .string d.old.takenRoot, .int .i64 d.head.number, .int .i64 d.head.size, .string d.head.root, .int .i64 d.head.taken, .string d.head.takenRoot, .int .i64 d.leaf, .string d.entry.topic, .int .i64 d.entry.index, .int .i64 d.entry.time, .string d.entry.key, .string d.entry.body, .string d.receipt.reader, .string d.receipt.topic, .int .i64 d.receipt.index, .slice A0 d.proof.length c0, .slice A1 d.more.length c1] 77) = w0 at *
 refine (IO.out _ (ItemD.inExt SI.out he)).mono ?_
 rintro e w1 ⟨rfl, h1⟩
 have E0 := hU he; have K00 := hU K0; have X1 := hU h1
 replace he := he.next h1; replace K0 := K0.ext h1; clear h1 RG lg IO HL
 have HP := hU (show presOf n d = presOf n d from rfl)
 cases b : itemOk n d
 · have E := hU (presOf_no b)
   go_wp2_with fail
   go_ret2
   exact ⟨_, ret_vb b.symm, by rw [E.out]; exact World.ownsRow_nil _ _ _ _, he⟩
 obtain ⟨hc, hf⟩ := K0.rules
 by_cases k2 : d.kind = 2
 · have f2 : (d.kind == 2) = true := by simpa using k2
   have E := hU (presOf_2 b k2)
   clear k2
   go_wp2_with fail
   refine (LeafText_any d.entry _ Hok.out.2.2.2.2.1).mono ?_
   rintro e w2 ⟨rfl, h1⟩
   replace he := he.next h1; replace K0 := K0.ext h1; clear h1 hc hf
   obtain ⟨hc, hf⟩ := K0.rules
   go_wp2_with fail
   refine (pathPres_any n 0 (leafText d.entry) d.head.size d.leaf A0 c0 d.proof _ (leafText_size d.entry) S0.out.le l0 (S0.out.ext he).reads).mono ?_
   rintro e w3 ⟨v, rfl, o3, h1⟩
   have O3 := hU (OwnF.base o3 he.size); clear o3
   replace he := he.next h1; clear h1
   go_wp2_with fail
   go_ret2
   exact ⟨_, ret_vb b.symm, by rw [E.out]; exact O3.out, he⟩
 have f2 : (d.kind == 2) = false := by simpa using k2
 by_cases k3 : d.kind = 3
 · have f3 : (d.kind == 3) = true := by simpa using k3
   have E := hU (presOf_3 b k3)
   clear k3
   go_wp2_with fail
   refine (ReceiptText_any d.receipt _ Hok.out.2.2.2.2.2.1).mono ?_
   rintro e w2 ⟨rfl, h1⟩
   replace he := he.next h1; replace K0 := K0.ext h1; clear h1 hc hf
   obtain ⟨hc, hf⟩ := K0.rules
   go_wp2_with fail
   refine (pathPres_any n 2 (receiptText d.receipt) d.head.taken d.leaf A0 c0 d.proof _ (receiptText_size d.receipt) S0.out.le l0 (S0.out.ext he).reads).mono ?_
   rintro e w3 ⟨v, rfl, o3, h1⟩
   have O3 := hU (OwnF.base o3 he.size); clear o3
   replace he := he.next h1; clear h1
   go_wp2_with fail
   go_ret2
   exact ⟨_, ret_vb b.symm, by rw [E.out]; exact O3.out, he⟩
 have f3 : (d.kind == 3) = false := by simpa using k3
 have E := hU (presOf_1 b k2 k3)
 have HA := hU (textsB_small n d.old.size d.old.root d.head.size d.proof)
 have HB := hU (textsB_small n d.old.taken d.old.takenRoot d.head.taken d.more)
 go_wp2_with fail
 refine (implTextsBetween_any n d.old.size d.old.root d.head.size A0 c0 d.proof _ Hok.out.2.1.2.2.1 S0.out.le l0 (S0.out.ext he).reads).mono ?_
 rintro e w2 ⟨v, rfl, o2, h1⟩
 have hx := X1.out.next h1
 clear h1 hc hf he K0 X1
 go_wp2_with fail
 refine (nodePres_any w0 _ _ _ _ [] _ hx (World.ownsRow_nil _ _ _ _) o2 (by have := HA.out.1; simp only [List.length_nil]; omega)).mono ?_
 clear o2 hx
 rintro e w3 ⟨v3, rfl, o3, hx⟩
 rw [List.nil_append] at o3
 have K0 := K00.out.ext hx; have he := E0.out.next hx
 have O3 := hU o3; clear o3
 obtain ⟨hc, hf⟩ := K0.rules
 go_wp2_with fail
 refine (implTextsBetween_any n d.old.taken d.old.takenRoot d.head.taken A1 c1 d.more _ Hok.out.2.1.2.2.2.2 S1.out.le l1 (S1.out.ext he).reads).mono ?_
 rintro e w4 ⟨v4, rfl, o4, h1⟩
 replace hx := hx.next h1
 have O5 := hU (OwnF.ext O3.out h1)
 clear h1 hc hf he K0 O3
 go_wp2_with fail
 refine (nodePres_any w0 _ _ _ _ _ _ hx O5.out o4 (by have := HA.out.1; have := HB.out.1; rw [nodesP_len]; omega)).mono ?_
 clear o4 hx O5
 rintro e w5 ⟨v5, rfl, o5, hx⟩
 have O6 := hU (OwnF.base o5 E0.out.size); clear o5
 have he := E0.out.next hx
 go_wp2_with fail
 go_ret2
 exact ⟨_, ret_vb b.symm, by rw [E.out]; exact O6.out, he⟩
end Go.Proofs.YtgeengkdgdjcjaaGreat

/-
  ItemOps: No condition.
-/
import Derived.Test.YtgeengkdgdjcjaaGreatPathTop
import Derived.Test.YtgeengkdgdjcjaaGreatNItem
namespace Go.Proofs.YtgeengkdgdjcjaaGreat
set_option maxHeartbeats 4000000
set_option maxRecDepth 100000
set_option linter.unusedSimpArgs false
open Go.RowKit
set_option linter.unusedVariables false
def leafB (n : Int) (h : HeadD) (at_ : Int) (e : EntryD) (l : List ByteArray) : Bool := leafHOk n e && checkIn n h.root h.size at_ (leafH n e) l
def takenB (n : Int) (h : HeadD) (at_ : Int) (e : ReceiptD) (l : List ByteArray) : Bool := recHOk n e && checkIn n h.takenRoot h.taken at_ (recH n e) l
def goesB (n : Int) (o h : HeadD) (p m : List ByteArray) : Bool := checkBetween n o.size o.root h.size h.root p && checkBetween n o.taken o.takenRoot h.taken h.takenRoot m
def itemOk (n : Int) (d : ItemD) : Bool := headOk n d.head && (if d.kind = 1 then headOk n d.old && goesB n d.old d.head d.proof d.more else if d.kind = 2 then leafB n d.head d.leaf d.entry d.proof else if d.kind = 3 then takenB n d.head d.leaf d.receipt d.proof else false)
theorem item_head {n : Int} {d : ItemD} (h : headOk n d.head = false) : itemOk n d = false := by rw [itemOk, h, Bool.false_and]
theorem item_1 {n : Int} {d : ItemD} (h : headOk n d.head = true) (k : d.kind = 1) : itemOk n d = (headOk n d.old && goesB n d.old d.head d.proof d.more) := by rw [itemOk, h, Bool.true_and, if_pos k]
theorem item_2 {n : Int} {d : ItemD} (h : headOk n d.head = true) (k : d.kind = 2) : itemOk n d = leafB n d.head d.leaf d.entry d.proof := by rw [itemOk, h, Bool.true_and, if_neg (by omega), if_pos k]
theorem item_3 {n : Int} {d : ItemD} (h : headOk n d.head = true) (k : d.kind = 3) : itemOk n d = takenB n d.head d.leaf d.receipt d.proof := by rw [itemOk, h, Bool.true_and, if_neg (by omega), if_neg (by omega), if_pos k]
theorem item_no {n : Int} {d : ItemD} (k1 : ¬ d.kind = 1) (k2 : ¬ d.kind = 2) (k3 : ¬ d.kind = 3) : itemOk n d = false := by rw [itemOk, if_neg k1, if_neg k2, if_neg k3, Bool.and_false]
theorem leafH_le (n : Int) (e : EntryD) : (leafH n e).size ≤ maxLen := by
 unfold leafH maxLen
 split
 · cases b : digestOk n 0 (leafText e)
   · rw [digest_no b]; decide
   · rw [digest_size b]
     have : inR n 1 32 = true := by simp only [digestOk, Bool.and_eq_true] at b; exact b.1.1
     have := inR_true this
     omega
 · decide
theorem recH_le (n : Int) (e : ReceiptD) : (recH n e).size ≤ maxLen := by
 unfold recH maxLen
 split
 · cases b : digestOk n 2 (receiptText e)
   · rw [digest_no b]; decide
   · rw [digest_size b]
     have : inR n 1 32 = true := by simp only [digestOk, Bool.and_eq_true] at b; exact b.1.1
     have := inR_true this
     omega
 · decide
theorem isLeaf_any (n : Int) (h : HeadD) (a : Int) (e : EntryD) (A : Option Addr) (c : Nat) (l : List ByteArray) (w : World) (he0 : e.Ok) (hlc : l.length ≤ c) (hl : l.length ≤ 1048576) (hr : ReadsL w w.heap.size sone 1 A l) :
 Calls Tryz.prog 83 #[.int .i64 n, .agg #[.int .i64 h.number, .int .i64 h.size, .string h.root, .int .i64 h.taken, .string h.takenRoot], .int .i64 a, .agg #[.string e.topic, .int .i64 e.index, .int .i64 e.time, .string e.key, .string e.body], .slice A l.length c] w fun e' w' => e' = .returned (.bool (leafB n h a e l)) ∧ Ext w w' := by
 have He := hU he0; clear he0
 have Hr := hU hr; clear hr
 obtain ⟨K0, K1, he⟩ := two_blks w #[.int .i64 h.number, .int .i64 h.size, .string h.root, .int .i64 h.taken, .string h.takenRoot] #[.string e.topic, .int .i64 e.index, .int .i64 e.time, .string e.key, .string e.body] 33 56
 have hle := leafH_le n e
 cases b1 : leafHOk n e
 · have E := hU (show leafB n h a e l = false by rw [leafB, b1, Bool.false_and])
   go_enter Tryz.func83, Tryz.ntmps83
   go_wp2_with fail
   refine (implLeafHash_any n e _ He.out).mono ?_
   rintro e1 w1 ⟨rfl, h1⟩
   rw [b1]
   replace K0 := K0.ext h1; replace he := he.next h1
   obtain ⟨hc, hf⟩ := K0.rules
   go_wp2_with fail
   go_ret
   exact ⟨ret_bool E.out.symm, he⟩
 · have E := hU (show leafB n h a e l = checkIn n h.root h.size a (leafH n e) l by rw [leafB, b1, Bool.true_and])
   have CI := fun (hs : ByteArray) (hz : hs.size ≤ maxLen) (w : World) hr => CheckIn_any n h.root h.size a hs A c l w hz hlc hl hr
   have CI := fun w hr => CI (leafH n e) hle w hr
   generalize leafB n h a e l = R at *
   have CI := hU CI
   clear hle
   go_enter Tryz.func83, Tryz.ntmps83
   go_wp2_with fail
   refine (implLeafHash_any n e _ He.out).mono ?_
   rintro e1 w1 ⟨rfl, h1⟩
   rw [b1]
   replace K0 := K0.ext h1; replace he := he.next h1
   obtain ⟨hc, hf⟩ := K0.rules
   go_wp2_with fail
   refine (CI.out _ (Hr.out.ext he)).mono ?_
   rintro e1 w2 ⟨rfl, h2⟩
   go_wp2_with fail
   go_ret
   exact ⟨ret_bool E.out.symm, he.next h2⟩
theorem isTaken_any (n : Int) (h : HeadD) (a : Int) (e : ReceiptD) (A : Option Addr) (c : Nat) (l : List ByteArray) (w : World) (he0 : e.Ok) (hlc : l.length ≤ c) (hl : l.length ≤ 1048576) (hr : ReadsL w w.heap.size sone 1 A l) :
 Calls Tryz.prog 84 #[.int .i64 n, .agg #[.int .i64 h.number, .int .i64 h.size, .string h.root, .int .i64 h.taken, .string h.takenRoot], .int .i64 a, .agg #[.string e.reader, .string e.topic, .int .i64 e.index], .slice A l.length c] w fun e' w' => e' = .returned (.bool (takenB n h a e l)) ∧ Ext w w' := by
 have He := hU he0; clear he0
 have Hr := hU hr; clear hr
 obtain ⟨K0, K1, he⟩ := two_blks w #[.int .i64 h.number, .int .i64 h.size, .string h.root, .int .i64 h.taken, .string h.takenRoot] #[.string e.reader, .string e.topic, .int .i64 e.index] 33 58
 have hle := recH_le n e
 cases b1 : recHOk n e
 · have E := hU (show takenB n h a e l = false by rw [takenB, b1, Bool.false_and])
   go_enter Tryz.func84, Tryz.ntmps84
   go_wp2_with fail
   refine (implReceiptHash_any n e _ He.out).mono ?_
   rintro e1 w1 ⟨rfl, h1⟩
   rw [b1]
   replace K0 := K0.ext h1; replace he := he.next h1
   obtain ⟨hc, hf⟩ := K0.rules
   go_wp2_with fail
   go_ret
   exact ⟨ret_bool E.out.symm, he⟩
 · have E := hU (show takenB n h a e l = checkIn n h.takenRoot h.taken a (recH n e) l by rw [takenB, b1, Bool.true_and])
   have CI := fun (hs : ByteArray) (hz : hs.size ≤ maxLen) (w : World) hr => CheckIn_any n h.takenRoot h.taken a hs A c l w hz hlc hl hr
   have CI := fun w hr => CI (recH n e) hle w hr
   generalize takenB n h a e l = R at *
   have CI := hU CI
   clear hle
   go_enter Tryz.func84, Tryz.ntmps84
   go_wp2_with fail
   refine (implReceiptHash_any n e _ He.out).mono ?_
   rintro e1 w1 ⟨rfl, h1⟩
   rw [b1]
   replace K0 := K0.ext h1; replace he := he.next h1
   obtain ⟨hc, hf⟩ := K0.rules
   go_wp2_with fail
   refine (CI.out _ (Hr.out.ext he)).mono ?_
   rintro e1 w2 ⟨rfl, h2⟩
   go_wp2_with fail
   go_ret
   exact ⟨ret_bool E.out.symm, he.next h2⟩
theorem goesOn_any (n : Int) (o h : HeadD) (A A' : Option Addr) (c c' : Nat) (l m : List ByteArray) (w : World) (ho : o.Ok) (hh : h.Ok) (hlc : l.length ≤ c) (hl : l.length ≤ 1048576) (hr : ReadsL w w.heap.size sone 1 A l) (hmc : m.length ≤ c') (hm : m.length ≤ 1048576) (hr' : ReadsL w w.heap.size sone 1 A' m) :
 Calls Tryz.prog 82 #[.int .i64 n, .agg #[.int .i64 o.number, .int .i64 o.size, .string o.root, .int .i64 o.taken, .string o.takenRoot], .agg #[.int .i64 h.number, .int .i64 h.size, .string h.root, .int .i64 h.taken, .string h.takenRoot], .slice A l.length c, .slice A' m.length c'] w fun e w' => e = .returned (.bool (goesB n o h l m)) ∧ Ext w w' := by
 obtain ⟨_, _, ho1, _, ho2⟩ := ho
 obtain ⟨_, _, hh1, _, hh2⟩ := hh
 have Hr := hU hr; clear hr
 have Hr' := hU hr'; clear hr'
 obtain ⟨K0, K1, he⟩ := two_blks w #[.int .i64 o.number, .int .i64 o.size, .string o.root, .int .i64 o.taken, .string o.takenRoot] #[.int .i64 h.number, .int .i64 h.size, .string h.root, .int .i64 h.taken, .string h.takenRoot] 33 33
 have C1 := hU (fun w hr => implCheckBetween_any n o.size o.root h.size h.root A c l w ho1 hh1 hlc hl hr)
 have C2 := hU (fun w hr => implCheckBetween_any n o.taken o.takenRoot h.taken h.takenRoot A' c' m w ho2 hh2 hmc hm hr)
 have EG := hU (show goesB n o h l m = (checkBetween n o.size o.root h.size h.root l && checkBetween n o.taken o.takenRoot h.taken h.takenRoot m) from rfl)
 generalize checkBetween n o.size o.root h.size h.root l = x at *
 generalize checkBetween n o.taken o.takenRoot h.taken h.takenRoot m = y at *
 generalize goesB n o h l m = z at *
 cases x
 · have E := hU (show z = false by rw [EG.out, Bool.false_and])
   go_enter Tryz.func82, Tryz.ntmps82
   go_wp2_with fail
   refine (C1.out _ (Hr.out.ext he)).mono ?_
   rintro e w1 ⟨rfl, h1⟩
   go_wp2_with fail
   go_ret
   exact ⟨ret_bool E.out.symm, he.next h1⟩
 · have E := hU (show z = y by rw [EG.out, Bool.true_and])
   go_enter Tryz.func82, Tryz.ntmps82
   go_wp2_with fail
   refine (C1.out _ (Hr.out.ext he)).mono ?_
   rintro e w1 ⟨rfl, h1⟩
   replace K0 := K0.ext h1; replace K1 := K1.ext h1; replace he := he.next h1; clear h1
   obtain ⟨hc, hf⟩ := K0.rules
   obtain ⟨hc1, hf1⟩ := K1.rules
   go_wp2_with fail
   refine (C2.out _ (Hr'.out.ext he)).mono ?_
   rintro e w2 ⟨rfl, h2⟩
   go_wp2_with fail
   go_ret
   exact ⟨ret_bool E.out.symm, he.next h2⟩
theorem implItemOk_any (n : Int) (d : ItemD) (A0 : Option Addr) (c0 : Nat) (A1 : Option Addr) (c1 : Nat) (w : World) (hok : d.Ok) (s0 : SlF AnyB sone 1 w A0 d.proof c0) (s1 : SlF AnyB sone 1 w A1 d.more c1) (hf : ∀ n ∈ d.lens, n ≤ 1048576) :
 Calls Tryz.prog 27 #[.int .i64 n, .agg #[.int .i64 d.kind, .int .i64 d.old.number, .int .i64 d.old.size, .string d.old.root, .int .i64 d.old.taken, .string d.old.takenRoot, .int .i64 d.head.number, .int .i64 d.head.size, .string d.head.root, .int .i64 d.head.taken, .string d.head.takenRoot, .int .i64 d.leaf, .string d.entry.topic, .int .i64 d.entry.index, .int .i64 d.entry.time, .string d.entry.key, .string d.entry.body, .string d.receipt.reader, .string d.receipt.topic, .int .i64 d.receipt.index, .slice A0 d.proof.length c0, .slice A1 d.more.length c1]] w fun e w' => e = .returned (.bool (itemOk n d)) ∧ Ext w w' := by
 have l0 : d.proof.length ≤ 1048576 := hf _ (by simp [ItemD.lens])
 have l1 : d.more.length ≤ 1048576 := hf _ (by simp [ItemD.lens])
 clear hf
 obtain ⟨o1, o2, o3, o4, o5, o6, _⟩ := hok
 have K0 := Blk.new w 77 #[.int .i64 d.kind, .int .i64 d.old.number, .int .i64 d.old.size, .string d.old.root, .int .i64 d.old.taken, .string d.old.takenRoot, .int .i64 d.head.number, .int .i64 d.head.size, .string d.head.root, .int .i64 d.head.taken, .string d.head.takenRoot, .int .i64 d.leaf, .string d.entry.topic, .int .i64 d.entry.index, .int .i64 d.entry.time, .string d.entry.key, .string d.entry.body, .string d.receipt.reader, .string d.receipt.topic, .int .i64 d.receipt.index, .slice A0 d.proof.length c0, .slice A1 d.more.length c1]
 have he := Ext.new (Below.refl w.heap.size w) (.cells #[.int .i64 d.kind, .int .i64 d.old.number, .int .i64 d.old.size, .string d.old.root, .int .i64 d.old.taken, .string d.old.takenRoot, .int .i64 d.head.number, .int .i64 d.head.size, .string d.head.root, .int .i64 d.head.taken, .string d.head.takenRoot, .int .i64 d.leaf, .string d.entry.topic, .int .i64 d.entry.index, .int .i64 d.entry.time, .string d.entry.key, .string d.entry.body, .string d.receipt.reader, .string d.receipt.topic, .int .i64 d.receipt.index, .slice A0 d.proof.length c0, .slice A1 d.more.length c1] 77)
 have S0 := hU s0; have S1 := hU s1
 clear s0 s1
 have HK := hU (And.intro o2 (And.intro o3 (And.intro o5 o6)))
 clear o2 o3 o5 o6
 cases b0 : headOk n d.head
 · have E := hU (item_head b0)
   go_enter Tryz.func27, Tryz.ntmps27
   go_wp2_with fail
   refine (implHeadOk_any n d.head _).mono ?_
   rintro e w1 ⟨rfl, h1⟩
   rw [b0]
   replace K0 := K0.ext h1; replace he := he.next h1; clear h1
   obtain ⟨hc, hf⟩ := K0.rules
   go_wp2_with fail
   go_ret
   exact ⟨ret_bool E.out.symm, he⟩
 by_cases k1 : d.kind = 1
 · have f1 : (d.kind == 1) = true := by simpa using k1
   cases b1 : headOk n d.old
   · have E := hU (show itemOk n d = false by rw [item_1 b0 k1, b1, Bool.false_and])
     clear k1
     go_enter Tryz.func27, Tryz.ntmps27
     go_wp2_with fail
     refine (implHeadOk_any n d.head _).mono ?_
     rintro e w1 ⟨rfl, h1⟩
     rw [b0]
     replace K0 := K0.ext h1; replace he := he.next h1; clear h1
     obtain ⟨hc, hf⟩ := K0.rules
     go_wp2_with fail
     clear hc hf
     refine (implHeadOk_any n d.old _).mono ?_
     rintro e w2 ⟨rfl, h1⟩
     rw [b1]
     replace K0 := K0.ext h1; replace he := he.next h1; clear h1
     obtain ⟨hc, hf⟩ := K0.rules
     go_wp2_with fail
     go_ret
     exact ⟨ret_bool E.out.symm, he⟩
   · have E := hU (show itemOk n d = goesB n d.old d.head d.proof d.more by rw [item_1 b0 k1, b1, Bool.true_and])
     clear k1
     go_enter Tryz.func27, Tryz.ntmps27
     go_wp2_with fail
     refine (implHeadOk_any n d.head _).mono ?_
     rintro e w1 ⟨rfl, h1⟩
     rw [b0]
     replace K0 := K0.ext h1; replace he := he.next h1; clear h1
     obtain ⟨hc, hf⟩ := K0.rules
     go_wp2_with fail
     clear hc hf
     refine (implHeadOk_any n d.old _).mono ?_
     rintro e w2 ⟨rfl, h1⟩
     rw [b1]
     replace K0 := K0.ext h1; replace he := he.next h1; clear h1
     obtain ⟨hc, hf⟩ := K0.rules
     go_wp2_with fail
     clear hc hf
     refine (goesOn_any n d.old d.head A0 A1 c0 c1 d.proof d.more _ HK.out.1 HK.out.2.1 S0.out.le l0 (S0.out.ext he).reads S1.out.le l1 (S1.out.ext he).reads).mono ?_
     rintro e w3 ⟨rfl, h1⟩
     go_wp2_with fail
     go_ret
     exact ⟨ret_bool E.out.symm, he.next h1⟩
 have f1 : (d.kind == 1) = false := by simpa using k1
 by_cases k2 : d.kind = 2
 · have f2 : (d.kind == 2) = true := by simpa using k2
   have E := hU (item_2 b0 k2)
   clear k2
   go_enter Tryz.func27, Tryz.ntmps27
   go_wp2_with fail
   refine (implHeadOk_any n d.head _).mono ?_
   rintro e w1 ⟨rfl, h1⟩
   rw [b0]
   replace K0 := K0.ext h1; replace he := he.next h1; clear h1
   obtain ⟨hc, hf⟩ := K0.rules
   go_wp2_with fail
   clear hc hf
   refine (isLeaf_any n d.head d.leaf d.entry A0 c0 d.proof _ HK.out.2.2.1 S0.out.le l0 (S0.out.ext he).reads).mono ?_
   rintro e w2 ⟨rfl, h1⟩
   go_wp2_with fail
   go_ret
   exact ⟨ret_bool E.out.symm, he.next h1⟩
 have f2 : (d.kind == 2) = false := by simpa using k2
 by_cases k3 : d.kind = 3
 · have f3 : (d.kind == 3) = true := by simpa using k3
   have E := hU (item_3 b0 k3)
   clear k3
   go_enter Tryz.func27, Tryz.ntmps27
   go_wp2_with fail
   refine (implHeadOk_any n d.head _).mono ?_
   rintro e w1 ⟨rfl, h1⟩
   rw [b0]
   replace K0 := K0.ext h1; replace he := he.next h1; clear h1
   obtain ⟨hc, hf⟩ := K0.rules
   go_wp2_with fail
   clear hc hf
   refine (isTaken_any n d.head d.leaf d.receipt A0 c0 d.proof _ HK.out.2.2.2 S0.out.le l0 (S0.out.ext he).reads).mono ?_
   rintro e w2 ⟨rfl, h1⟩
   go_wp2_with fail
   go_ret
   exact ⟨ret_bool E.out.symm, he.next h1⟩
 have f3 : (d.kind == 3) = false := by simpa using k3
 have E := hU (item_no (n := n) k1 k2 k3)
 go_enter Tryz.func27, Tryz.ntmps27
 go_wp2_with fail
 refine (implHeadOk_any n d.head _).mono ?_
 rintro e w1 ⟨rfl, h1⟩
 rw [b0]
 replace K0 := K0.ext h1; replace he := he.next h1; clear h1
 obtain ⟨hc, hf⟩ := K0.rules
 go_wp2_with fail
 go_ret
 exact ⟨ret_bool E.out.symm, he⟩
end Go.Proofs.YtgeengkdgdjcjaaGreat

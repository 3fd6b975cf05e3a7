/-
  spec.Reopen: walk. Written by program (gen_reopen4.py). No condition.
-/
import Derived.Test.YtlgdghpnfclgpaaGreatGrowA
import Derived.Test.YtlgdghpnfclgpaaGreatSpecRec
import Derived.Test.YtlgdghpnfclgpaaGreatBrkNew
import Derived.Test.YtlgdghpnfclgpaaGreatLogOks
import Derived.Test.YtlgdghpnfclgpaaGreatRoot6
import Derived.Test.YtlgdghpnfclgpaaGreatSpecS
import Derived.Test.YtlgdghpnfclgpaaGreatBrkS
import Derived.Test.YtlgdghpnfclgpaaGreatReadHd
import Derived.Deep.CutRange
import Derived.Deep.Light
namespace Go.Proofs.YtlgdghpnfclgpaaGreat
set_option linter.unusedSimpArgs false
open Go.RowKit
set_option linter.unusedVariables false
theorem info_write2 : (Tryz.prog.info? 112).map (fun i => (i.zero, i.size, i.bytes)) = some (some (.agg #[.int .i64 0, .int .i64 0, .string ⟨#[]⟩]), 3, 32) := by kernel_rfl
theorem info_texts : (Tryz.prog.info? 22).map (fun i => (i.zero, i.size, i.bytes)) = some (some (.slice none 0 0), 1, 24) := by kernel_rfl
def cB {α : Type} (b e : Nat) (p : α → Bool) (L : List α) : Nat := if b = 0 then (if L.all p then 0 else e) else b
theorem cB_nil {α : Type} (b e : Nat) (p : α → Bool) : cB b e p [] = b := by
 unfold cB
 by_cases h : b = 0
 · rw [if_pos h, h]; rfl
 · rw [if_neg h]
theorem cB_good {α : Type} {b e : Nat} {p : α → Bool} {L : List α} {x : α} (h : p x = true) : cB b e p (L ++ [x]) = cB b e p L := by
 unfold cB
 rw [List.all_append]
 simp [h]
theorem cB_bad {α : Type} {b e : Nat} {p : α → Bool} {L : List α} {x : α} (h : p x = false) : cB b e p (L ++ [x]) = if cB b e p L = 0 then e else cB b e p L := by
 unfold cB
 rw [List.all_append]
 by_cases hb : b = 0
 · cases a : L.all p
   · simp [hb, h]
   · simp [hb, h]
 · simp [hb]
theorem cB_first {α : Type} {e : Nat} {p : α → Bool} {L : List α} {x : α} (h : p x = false) : cB 0 e p (L ++ [x]) = e := by
 unfold cB
 rw [List.all_append]
 simp [h]
theorem three_cells {w : World} {K e b c : Nat} {x0 x1 x2 : Value} (h : w.ownsRow K e 1 (.slice (some ⟨b, 0, none⟩) 3 c) 3 [x0, x1, x2]) : b < w.heap.size ∧ w.cell? ⟨b, 0, none⟩ = some x0 ∧ w.cell? ⟨b, 1, none⟩ = some x1 ∧ w.cell? ⟨b, 2, none⟩ = some x2 := by
 have hc := h.cells (g := b) rfl
 exact ⟨(h.lt b rfl).2, by simpa [Addr.add] using hc 0 x0 rfl, by simpa [Addr.add] using hc 1 x1 rfl, by simpa [Addr.add] using hc 2 x2 rfl⟩
theorem row_three {w : World} {K e : Nat} {v : Value} {x0 x1 x2 : Value} (h : w.ownsRow K e 1 v 3 [x0, x1, x2]) : ∃ b c, v = .slice (some ⟨b, 0, none⟩) 3 c := by
 rcases h.2 with ⟨rfl, h2⟩ | ⟨g, cap, cur, rfl, _⟩
 · cases h2
 · exact ⟨g, cap, rfl⟩
theorem rlOut_ok (b : Bool) (T : ByteArray) (hT : T.size ≤ 1099511627776) : (rlOut b (rlD T)).Ok := by
 cases b
 · exact (show EntryD.Ok ⟨⟨#[]⟩, 0, 0, ⟨#[]⟩, ⟨#[]⟩⟩ from ⟨by decide, by decide, by decide, by decide, by decide⟩)
 · exact rlD_ok T hT
theorem rrOut_ok (b : Bool) (T : ByteArray) (hT : T.size ≤ 1099511627776) : (rrOutQ b (rrD T)).Ok := by
 cases b
 · exact (show ReceiptD.Ok ⟨⟨#[]⟩, ⟨#[]⟩, 0⟩ from ⟨by decide, by decide, by decide⟩)
 · exact rrD_ok T hT
def newHs (n : Int) (l : List ByteArray) : List HeadD := newH true n :: hsS n l
theorem slf_take {α : Type} {f : α → List Value} {size m : Nat} {w : World} {A : Option Addr} {c : Nat} {l : List α} (hf : ∀ a, (f a).length = size) (h : SlF AnyB f size w A l c) (hm : m ≤ l.length) : SlF AnyB f size w A (l.take m) c :=
 ⟨by have := h.le; rw [List.length_take]; omega, h.cap, reads_take hf h.reads m hm, fun _ _ _ => trivial⟩
theorem pk_len (nd : ByteArray → ByteArray → ByteArray) (L : List ByteArray) (h : L.length ≤ 512) : (peaksOf nd L).reverse.length ≤ 1048576 := by
 rw [List.length_reverse, peaks_len]
 have := pc_le L.length
 omega
theorem range_take (n : Int) (es : List EntryD) (m : Nat) (hm : m ≤ es.length) : rangeOf n ((leavesH n es).take m) = ⟨(m : Int), (peaksOf (ndB n) ((es.take m).map (leafH n))).reverse⟩ := by
 unfold rangeOf leavesH
 rw [← List.map_take, List.length_map, List.length_take, Nat.min_eq_left hm]
theorem range_takeR (n : Int) (rs : List ReceiptD) (m : Nat) (hm : m ≤ rs.length) : rangeOf n ((takenH n rs).take m) = ⟨(m : Int), (peaksOf (ndB n) ((rs.take m).map (recH n))).reverse⟩ := by
 unfold rangeOf takenH
 rw [← List.map_take, List.length_map, List.length_take, Nat.min_eq_left hm]
theorem re_zero {n : Int} {l : List ByteArray} (h : code3 n l = 0) : esS l = (reB0 n l).log.entries ∧ rsS l = (reB0 n l).receipts ∧ newHs n l = (reB0 n l).heads ∧ logOk (esS l) = true ∧ recsOk (rsS l) = true ∧ (newHs n l).length ≤ 400 ∧ 0 ≤ (lastH (reB0 n l).heads).size ∧ 0 ≤ (lastH (reB0 n l).heads).taken := by
 unfold code3 at h
 by_cases h2 : code2 l = 0
 · rw [if_pos h2] at h
   cases a3 : (filesOf l 1).all (hrSpec n) && decide ((newH true n :: hsS n l).length ≤ 400)
   · rw [a3] at h; exact absurd h (by decide)
   · rw [Bool.and_eq_true, decide_eq_true_eq] at a3
     unfold code2 at h2
     by_cases h1 : code1 l = 0
     · rw [if_pos h1] at h2
       cases a2 : (filesOf l 2).all rrSpec && recsOk (rsS l)
       · rw [a2] at h2; exact absurd h2 (by decide)
       · rw [Bool.and_eq_true] at a2
         unfold code1 at h1
         cases a1 : (filesOf l 0).all rlSpec && logOk (esS l)
         · rw [a1] at h1; exact absurd h1 (by decide)
         · rw [Bool.and_eq_true] at a1
           have li := last_in a3.1
           exact ⟨esS_good a1.1, rsS_good a2.1, hsS_good a3.1, a1.2, a2.2, a3.2, li.1, li.2⟩
     · rw [if_neg h1] at h2; exact absurd h2 h1
 · rw [if_neg h2] at h; exact absurd h h2
set_option maxHeartbeats 1000000 in
set_option maxRecDepth 100000 in
theorem specReopen_no1 (n : Int) (A : Option Addr) (c : Nat) (l : List ByteArray) (w : World) (hr : ReadsL w w.heap.size sone 1 A l) (hl : l.length ≤ 1048576) (b1 : inR n 1 32 = false) :
 Calls Tryz.prog 24 #[.int .i64 n, .agg #[.slice A l.length c]] w (ReAns n l w) := by
 have E := Lib.hid (re1 (n := n) (l := l) (by rw [b1]; rfl))
 have K0 := Lib.hid (Blk.new w 27 #[.slice A l.length c])
 have He0 := Ext.new (Below.refl w.heap.size w) (.cells #[.slice A l.length c] 27)
 have HR := Lib.hid hr
 clear hr
 obtain ⟨w0, hw0⟩ : ∃ w0, w0 = w.alloc (.cells #[.slice A l.length c] 27) := ⟨_, rfl⟩
 have hs0 : w0.heap.size = w.heap.size + 1 := by rw [hw0, World.size_alloc]
 rw [← hw0] at He0
 have K0' := K0.out
 rw [← hw0] at K0'
 have KA := (K0'.alloc (.cells #[.int .i64 0, .slice none 0 0, .slice none 0 0, .slice none 0 0, .int .i64 0, .slice none 0 0, .int .i64 0, .slice none 0 0, .int .i64 0, .int .i64 0, .string ⟨#[]⟩, .int .i64 0, .string ⟨#[]⟩] 59))
 have KB := (Blk.new w0 59 #[.int .i64 0, .slice none 0 0, .slice none 0 0, .slice none 0 0, .int .i64 0, .slice none 0 0, .int .i64 0, .slice none 0 0, .int .i64 0, .int .i64 0, .string ⟨#[]⟩, .int .i64 0, .string ⟨#[]⟩])
 have he := He0.new (.cells #[.int .i64 0, .slice none 0 0, .slice none 0 0, .slice none 0 0, .int .i64 0, .slice none 0 0, .int .i64 0, .slice none 0 0, .int .i64 0, .int .i64 0, .string ⟨#[]⟩, .int .i64 0, .string ⟨#[]⟩] 59)
 obtain ⟨w1, hw1⟩ : ∃ w1, w1 = w0.alloc (.cells #[.int .i64 0, .slice none 0 0, .slice none 0 0, .slice none 0 0, .int .i64 0, .slice none 0 0, .int .i64 0, .slice none 0 0, .int .i64 0, .int .i64 0, .string ⟨#[]⟩, .int .i64 0, .string ⟨#[]⟩] 59) := ⟨_, rfl⟩
 rw [← hw1] at KA KB he
 have W0 := Lib.hid hw0; have W1 := Lib.hid hw1
 rw [hs0] at KB
 clear K0 K0' He0 hw0 hw1 hs0
 go_enter Tryz.func24, Tryz.ntmps24
 go_upto_region 1 with fail
 rw [← W0.out]
 rw [← W1.out]
 obtain ⟨gR, hgR⟩ : ∃ gR, gR = w.heap.size + 1 := ⟨_, rfl⟩
 rw [← hgR] at KB
 rw [← hgR]
 have HgR := Lib.hid hgR
 clear hgR W0 W1
 go_wp2_with fail
 refine (specBrokerNew_no n _ b1).mono ?_
 rintro e w2 ⟨rfl, h2⟩
 replace KA := KA.ext h2; replace KB := KB.ext h2; replace he := he.next h2
 simp only [brokNC]
 have hRV : gR < w2.heap.size := KB.lt
 have KV0 := Blk.new w2 59 #[.int .i64 0, .slice none 0 0, .slice none 0 0, .slice none 0 0, .int .i64 0, .slice none 0 0, .int .i64 0, .slice none 0 0, .int .i64 0, .int .i64 0, .string ⟨#[]⟩, .int .i64 0, .string ⟨#[]⟩]
 obtain ⟨w3, hw3, KV, hx⟩ : ∃ w3, w3 = (w2.alloc (.cells #[.int .i64 0, .slice none 0 0, .slice none 0 0, .slice none 0 0, .int .i64 0, .slice none 0 0, .int .i64 0, .slice none 0 0, .int .i64 0, .int .i64 0, .string ⟨#[]⟩, .int .i64 0, .string ⟨#[]⟩] 59)).setCells w2.heap.size 0 [.int .i64 0, .slice none 0 0, .slice none 0 0, .slice none 0 0, .int .i64 0, .slice none 0 0, .int .i64 0, .slice none 0 0, .int .i64 (newH false n).number, .int .i64 (newH false n).size, .string (newH false n).root, .int .i64 (newH false n).taken, .string (newH false n).takenRoot] ∧ Blk w3 w2.heap.size 59 #[.int .i64 0, .slice none 0 0, .slice none 0 0, .slice none 0 0, .int .i64 0, .slice none 0 0, .int .i64 0, .slice none 0 0, .int .i64 (newH false n).number, .int .i64 (newH false n).size, .string (newH false n).root, .int .i64 (newH false n).taken, .string (newH false n).takenRoot] ∧ Ext w2 w3 :=
  ⟨_, rfl, KV0.put 0 [.int .i64 0, .slice none 0 0, .slice none 0 0, .slice none 0 0, .int .i64 0, .slice none 0 0, .int .i64 0, .slice none 0 0, .int .i64 (newH false n).number, .int .i64 (newH false n).size, .string (newH false n).root, .int .i64 (newH false n).taken, .string (newH false n).takenRoot] #[.int .i64 0, .slice none 0 0, .slice none 0 0, .slice none 0 0, .int .i64 0, .slice none 0 0, .int .i64 0, .slice none 0 0, .int .i64 (newH false n).number, .int .i64 (newH false n).size, .string (newH false n).root, .int .i64 (newH false n).taken, .string (newH false n).takenRoot] (by simp) rfl, ext_setCells (W := w2) (g := w2.heap.size) (Nat.le_refl _) [.int .i64 0, .slice none 0 0, .slice none 0 0, .slice none 0 0, .int .i64 0, .slice none 0 0, .int .i64 0, .slice none 0 0, .int .i64 (newH false n).number, .int .i64 (newH false n).size, .string (newH false n).root, .int .i64 (newH false n).taken, .string (newH false n).takenRoot] 0 _ (Ext.new (Below.refl _ _) _)⟩
 have T4 := Lib.hid (KV0.there 0 13 (by simp))
 have HW := Lib.hid hw3
 replace KA := KA.ext hx; replace KB := KB.ext hx; replace he := he.next hx
 clear hw3 hx KV0 h2
 go_upto_region 2 with (refine wpList_store_list rfl 59 _ _ rfl rfl w2.heap.size 0 [.int .i64 0, .slice none 0 0, .slice none 0 0, .slice none 0 0, .int .i64 0, .slice none 0 0, .int .i64 0, .slice none 0 0, .int .i64 (newH false n).number, .int .i64 (newH false n).size, .string (newH false n).root, .int .i64 (newH false n).taken, .string (newH false n).takenRoot] rfl rfl T4.out (by kernel_rfl) (by rfl) ?_; rw [← HW.out])
 obtain ⟨gV, hgV⟩ : ∃ gV, gV = w2.heap.size := ⟨_, rfl⟩
 rw [← hgV] at KV hRV
 rw [← hgV]
 clear hgV T4 HW
 obtain ⟨ac, af⟩ := KA.rules
 obtain ⟨wz, hw, hz, hx⟩ : ∃ wz, wz = (w3.alloc (.cells #[] 112)).setCells gR 0 [.int .i64 0, .slice none 0 0, .slice none 0 0, .slice none 0 0, .int .i64 0, .slice none 0 0, .int .i64 0, .slice none 0 0, .int .i64 0, .int .i64 0, .string ⟨#[]⟩, .int .i64 0, .string ⟨#[]⟩] ∧ Blk wz gR 59 #[.int .i64 0, .slice none 0 0, .slice none 0 0, .slice none 0 0, .int .i64 0, .slice none 0 0, .int .i64 0, .slice none 0 0, .int .i64 0, .int .i64 0, .string ⟨#[]⟩, .int .i64 0, .string ⟨#[]⟩] ∧ Ext w wz := ⟨_, rfl, (KB.alloc _).put 0 [.int .i64 0, .slice none 0 0, .slice none 0 0, .slice none 0 0, .int .i64 0, .slice none 0 0, .int .i64 0, .slice none 0 0, .int .i64 0, .int .i64 0, .string ⟨#[]⟩, .int .i64 0, .string ⟨#[]⟩] #[.int .i64 0, .slice none 0 0, .slice none 0 0, .slice none 0 0, .int .i64 0, .slice none 0 0, .int .i64 0, .slice none 0 0, .int .i64 0, .int .i64 0, .string ⟨#[]⟩, .int .i64 0, .string ⟨#[]⟩] (by simp) rfl, ext_setCells (W := w) (g := gR) (by have := HgR.out; omega) [.int .i64 0, .slice none 0 0, .slice none 0 0, .slice none 0 0, .int .i64 0, .slice none 0 0, .int .i64 0, .slice none 0 0, .int .i64 0, .int .i64 0, .string ⟨#[]⟩, .int .i64 0, .string ⟨#[]⟩] 0 _ (he.new _)⟩
 have T4 := Lib.hid ((KB.alloc (.cells #[] 112)).there 0 13 (by simp))
 have OE := Lib.hid (show wz.ownsRow w.heap.size 112 3 (.slice (some ⟨w3.heap.size, 0, none⟩) 0 0) 0 [] by
  have hf := Frm.setCells (Frm.refl (fun b => b = gR) (w3.alloc (.cells #[] 112))) (g := gR) (fun _ => rfl) [.int .i64 0, .slice none 0 0, .slice none 0 0, .slice none 0 0, .int .i64 0, .slice none 0 0, .int .i64 0, .slice none 0 0, .int .i64 0, .int .i64 0, .string ⟨#[]⟩, .int .i64 0, .string ⟨#[]⟩] 0
  have h1 := ownsRow_empty w3 112 3
  have h2 := hf.own h1 (fun y hy => own_ne h1 (KB.alloc _) (by decide) y hy)
  rw [hw]
  exact ownsRow_base h2 he.size)
 have HW := Lib.hid hw; have Z4 := Lib.hid hz; have X4 := Lib.hid hx
 clear hw hz hx
 go_wp2_with (refine wpList_store_list rfl 59 _ _ rfl rfl gR 0 [.int .i64 0, .slice none 0 0, .slice none 0 0, .slice none 0 0, .int .i64 0, .slice none 0 0, .int .i64 0, .slice none 0 0, .int .i64 0, .int .i64 0, .string ⟨#[]⟩, .int .i64 0, .string ⟨#[]⟩] rfl rfl T4.out (by kernel_rfl) (by rfl) ?_; rw [← HW.out])
 refine ret_row_two rfl rfl Z4.out Tryz.underlying59 rfl (by kernel_rfl) rfl ?_
 exact ReAns.bad E.out (by decide) rfl OE.out X4.out
set_option maxHeartbeats 1000000 in
set_option maxRecDepth 100000 in
theorem specReopen_no2 (n : Int) (A : Option Addr) (c : Nat) (l : List ByteArray) (w : World) (hr : ReadsL w w.heap.size sone 1 A l) (hl : l.length ≤ 1048576) (b1 : inR n 1 32 = true) (q1 : diskOk l = false) :
 Calls Tryz.prog 24 #[.int .i64 n, .agg #[.slice A l.length c]] w (ReAns n l w) := by
 have E := Lib.hid (re1 (n := n) (l := l) (by rw [b1, q1]; rfl))
 have K0 := Lib.hid (Blk.new w 27 #[.slice A l.length c])
 have He0 := Ext.new (Below.refl w.heap.size w) (.cells #[.slice A l.length c] 27)
 have HR := Lib.hid hr
 clear hr
 obtain ⟨w0, hw0⟩ : ∃ w0, w0 = w.alloc (.cells #[.slice A l.length c] 27) := ⟨_, rfl⟩
 have hs0 : w0.heap.size = w.heap.size + 1 := by rw [hw0, World.size_alloc]
 rw [← hw0] at He0
 have K0' := K0.out
 rw [← hw0] at K0'
 have KA := (K0'.alloc (.cells #[.int .i64 0, .slice none 0 0, .slice none 0 0, .slice none 0 0, .int .i64 0, .slice none 0 0, .int .i64 0, .slice none 0 0, .int .i64 0, .int .i64 0, .string ⟨#[]⟩, .int .i64 0, .string ⟨#[]⟩] 59))
 have KB := (Blk.new w0 59 #[.int .i64 0, .slice none 0 0, .slice none 0 0, .slice none 0 0, .int .i64 0, .slice none 0 0, .int .i64 0, .slice none 0 0, .int .i64 0, .int .i64 0, .string ⟨#[]⟩, .int .i64 0, .string ⟨#[]⟩])
 have he := He0.new (.cells #[.int .i64 0, .slice none 0 0, .slice none 0 0, .slice none 0 0, .int .i64 0, .slice none 0 0, .int .i64 0, .slice none 0 0, .int .i64 0, .int .i64 0, .string ⟨#[]⟩, .int .i64 0, .string ⟨#[]⟩] 59)
 obtain ⟨w1, hw1⟩ : ∃ w1, w1 = w0.alloc (.cells #[.int .i64 0, .slice none 0 0, .slice none 0 0, .slice none 0 0, .int .i64 0, .slice none 0 0, .int .i64 0, .slice none 0 0, .int .i64 0, .int .i64 0, .string ⟨#[]⟩, .int .i64 0, .string ⟨#[]⟩] 59) := ⟨_, rfl⟩
 rw [← hw1] at KA KB he
 have W0 := Lib.hid hw0; have W1 := Lib.hid hw1
 rw [hs0] at KB
 clear K0 K0' He0 hw0 hw1 hs0
 go_enter Tryz.func24, Tryz.ntmps24
 go_upto_region 1 with fail
 rw [← W0.out]
 rw [← W1.out]
 obtain ⟨gR, hgR⟩ : ∃ gR, gR = w.heap.size + 1 := ⟨_, rfl⟩
 rw [← hgR] at KB
 rw [← hgR]
 have HgR := Lib.hid hgR
 clear hgR W0 W1
 go_wp2_with fail
 refine (specBrokerNew_yes n _ b1).mono ?_
 rintro e w2 ⟨q, rfl, hq, kq, h2⟩
 replace KA := KA.ext h2; replace KB := KB.ext h2; replace he := he.next h2
 simp only [brokNC]
 have hRV : gR < w2.heap.size := KB.lt
 have KV0 := Blk.new w2 59 #[.int .i64 0, .slice none 0 0, .slice none 0 0, .slice none 0 0, .int .i64 0, .slice none 0 0, .int .i64 0, .slice none 0 0, .int .i64 0, .int .i64 0, .string ⟨#[]⟩, .int .i64 0, .string ⟨#[]⟩]
 obtain ⟨w3, hw3, KV, hx⟩ : ∃ w3, w3 = (w2.alloc (.cells #[.int .i64 0, .slice none 0 0, .slice none 0 0, .slice none 0 0, .int .i64 0, .slice none 0 0, .int .i64 0, .slice none 0 0, .int .i64 0, .int .i64 0, .string ⟨#[]⟩, .int .i64 0, .string ⟨#[]⟩] 59)).setCells w2.heap.size 0 [.int .i64 n, .slice none 0 0, .slice none 0 0, .slice (some ⟨q, 0, none⟩) 1 1, .int .i64 0, .slice none 0 0, .int .i64 0, .slice none 0 0, .int .i64 (newH true n).number, .int .i64 (newH true n).size, .string (newH true n).root, .int .i64 (newH true n).taken, .string (newH true n).takenRoot] ∧ Blk w3 w2.heap.size 59 #[.int .i64 n, .slice none 0 0, .slice none 0 0, .slice (some ⟨q, 0, none⟩) 1 1, .int .i64 0, .slice none 0 0, .int .i64 0, .slice none 0 0, .int .i64 (newH true n).number, .int .i64 (newH true n).size, .string (newH true n).root, .int .i64 (newH true n).taken, .string (newH true n).takenRoot] ∧ Ext w2 w3 :=
  ⟨_, rfl, KV0.put 0 [.int .i64 n, .slice none 0 0, .slice none 0 0, .slice (some ⟨q, 0, none⟩) 1 1, .int .i64 0, .slice none 0 0, .int .i64 0, .slice none 0 0, .int .i64 (newH true n).number, .int .i64 (newH true n).size, .string (newH true n).root, .int .i64 (newH true n).taken, .string (newH true n).takenRoot] #[.int .i64 n, .slice none 0 0, .slice none 0 0, .slice (some ⟨q, 0, none⟩) 1 1, .int .i64 0, .slice none 0 0, .int .i64 0, .slice none 0 0, .int .i64 (newH true n).number, .int .i64 (newH true n).size, .string (newH true n).root, .int .i64 (newH true n).taken, .string (newH true n).takenRoot] (by simp) rfl, ext_setCells (W := w2) (g := w2.heap.size) (Nat.le_refl _) [.int .i64 n, .slice none 0 0, .slice none 0 0, .slice (some ⟨q, 0, none⟩) 1 1, .int .i64 0, .slice none 0 0, .int .i64 0, .slice none 0 0, .int .i64 (newH true n).number, .int .i64 (newH true n).size, .string (newH true n).root, .int .i64 (newH true n).taken, .string (newH true n).takenRoot] 0 _ (Ext.new (Below.refl _ _) _)⟩
 have T4 := Lib.hid (KV0.there 0 13 (by simp))
 have HW := Lib.hid hw3
 replace KA := KA.ext hx; replace KB := KB.ext hx; replace he := he.next hx
 clear hw3 hx KV0 h2
 go_upto_region 2 with (refine wpList_store_list rfl 59 _ _ rfl rfl w2.heap.size 0 [.int .i64 n, .slice none 0 0, .slice none 0 0, .slice (some ⟨q, 0, none⟩) 1 1, .int .i64 0, .slice none 0 0, .int .i64 0, .slice none 0 0, .int .i64 (newH true n).number, .int .i64 (newH true n).size, .string (newH true n).root, .int .i64 (newH true n).taken, .string (newH true n).takenRoot] rfl rfl T4.out (by kernel_rfl) (by rfl) ?_; rw [← HW.out])
 obtain ⟨gV, hgV⟩ : ∃ gV, gV = w2.heap.size := ⟨_, rfl⟩
 rw [← hgV] at KV hRV
 rw [← hgV]
 clear hgV T4 HW
 obtain ⟨ac, af⟩ := KA.rules
 go_wp2_with fail
 refine (specDiskOk_any A c l _ (HR.out.ext he) hl).mono ?_
 rintro e w4 ⟨rfl, h4⟩
 rw [q1]
 replace KA := KA.ext h4; replace KB := KB.ext h4; replace KV := KV.ext h4; replace he := he.next h4
 clear ac af h4
 obtain ⟨wz, hw, hz, hx⟩ : ∃ wz, wz = (w4.alloc (.cells #[] 112)).setCells gR 0 [.int .i64 0, .slice none 0 0, .slice none 0 0, .slice none 0 0, .int .i64 0, .slice none 0 0, .int .i64 0, .slice none 0 0, .int .i64 0, .int .i64 0, .string ⟨#[]⟩, .int .i64 0, .string ⟨#[]⟩] ∧ Blk wz gR 59 #[.int .i64 0, .slice none 0 0, .slice none 0 0, .slice none 0 0, .int .i64 0, .slice none 0 0, .int .i64 0, .slice none 0 0, .int .i64 0, .int .i64 0, .string ⟨#[]⟩, .int .i64 0, .string ⟨#[]⟩] ∧ Ext w wz := ⟨_, rfl, (KB.alloc _).put 0 [.int .i64 0, .slice none 0 0, .slice none 0 0, .slice none 0 0, .int .i64 0, .slice none 0 0, .int .i64 0, .slice none 0 0, .int .i64 0, .int .i64 0, .string ⟨#[]⟩, .int .i64 0, .string ⟨#[]⟩] #[.int .i64 0, .slice none 0 0, .slice none 0 0, .slice none 0 0, .int .i64 0, .slice none 0 0, .int .i64 0, .slice none 0 0, .int .i64 0, .int .i64 0, .string ⟨#[]⟩, .int .i64 0, .string ⟨#[]⟩] (by simp) rfl, ext_setCells (W := w) (g := gR) (by have := HgR.out; omega) [.int .i64 0, .slice none 0 0, .slice none 0 0, .slice none 0 0, .int .i64 0, .slice none 0 0, .int .i64 0, .slice none 0 0, .int .i64 0, .int .i64 0, .string ⟨#[]⟩, .int .i64 0, .string ⟨#[]⟩] 0 _ (he.new _)⟩
 have T4 := Lib.hid ((KB.alloc (.cells #[] 112)).there 0 13 (by simp))
 have OE := Lib.hid (show wz.ownsRow w.heap.size 112 3 (.slice (some ⟨w4.heap.size, 0, none⟩) 0 0) 0 [] by
  have hf := Frm.setCells (Frm.refl (fun b => b = gR) (w4.alloc (.cells #[] 112))) (g := gR) (fun _ => rfl) [.int .i64 0, .slice none 0 0, .slice none 0 0, .slice none 0 0, .int .i64 0, .slice none 0 0, .int .i64 0, .slice none 0 0, .int .i64 0, .int .i64 0, .string ⟨#[]⟩, .int .i64 0, .string ⟨#[]⟩] 0
  have h1 := ownsRow_empty w4 112 3
  have h2 := hf.own h1 (fun y hy => own_ne h1 (KB.alloc _) (by decide) y hy)
  rw [hw]
  exact ownsRow_base h2 he.size)
 have HW := Lib.hid hw; have Z4 := Lib.hid hz; have X4 := Lib.hid hx
 clear hw hz hx
 go_wp2_with (refine wpList_store_list rfl 59 _ _ rfl rfl gR 0 [.int .i64 0, .slice none 0 0, .slice none 0 0, .slice none 0 0, .int .i64 0, .slice none 0 0, .int .i64 0, .slice none 0 0, .int .i64 0, .int .i64 0, .string ⟨#[]⟩, .int .i64 0, .string ⟨#[]⟩] rfl rfl T4.out (by kernel_rfl) (by rfl) ?_; rw [← HW.out])
 refine ret_row_two rfl rfl Z4.out Tryz.underlying59 rfl (by kernel_rfl) rfl ?_
 exact ReAns.bad E.out (by decide) rfl OE.out X4.out
set_option maxHeartbeats 40000000 in
set_option maxRecDepth 100000 in
theorem specReopen_yes (n : Int) (A : Option Addr) (c : Nat) (l : List ByteArray) (w : World) (hr : ReadsL w w.heap.size sone 1 A l) (hl : l.length ≤ 1048576) (hsz : ∀ x ∈ l, x.size ≤ 1099511627776) (hy : (inR n 1 32 && diskOk l) = true) :
 Calls Tryz.prog 24 #[.int .i64 n, .agg #[.slice A l.length c]] w (ReAns n l w) := by
 obtain ⟨i0, hi, hz0, hz1, hz2⟩ := info_parts info_write2
 obtain ⟨i1, hj, hy0, hy1, hy2⟩ := info_parts info_texts
 have Hy := Lib.hid hy
 have b1 : inR n 1 32 = true := by rw [Bool.and_eq_true] at hy; exact hy.1
 have q1 : diskOk l = true := by rw [Bool.and_eq_true] at hy; exact hy.2
 have HL3 := Lib.hid (disk_three q1)
 have Hsz := Lib.hid hsz; have B1 := Lib.hid b1
 clear hy hsz
 have K0 := Lib.hid (Blk.new w 27 #[.slice A l.length c])
 have He0 := Ext.new (Below.refl w.heap.size w) (.cells #[.slice A l.length c] 27)
 have HR := Lib.hid hr
 clear hr
 obtain ⟨w0, hw0⟩ : ∃ w0, w0 = w.alloc (.cells #[.slice A l.length c] 27) := ⟨_, rfl⟩
 have hs0 : w0.heap.size = w.heap.size + 1 := by rw [hw0, World.size_alloc]
 rw [← hw0] at He0
 have K0' := K0.out
 rw [← hw0] at K0'
 have KA := (K0'.alloc (.cells #[.int .i64 0, .slice none 0 0, .slice none 0 0, .slice none 0 0, .int .i64 0, .slice none 0 0, .int .i64 0, .slice none 0 0, .int .i64 0, .int .i64 0, .string ⟨#[]⟩, .int .i64 0, .string ⟨#[]⟩] 59))
 have KB := (Blk.new w0 59 #[.int .i64 0, .slice none 0 0, .slice none 0 0, .slice none 0 0, .int .i64 0, .slice none 0 0, .int .i64 0, .slice none 0 0, .int .i64 0, .int .i64 0, .string ⟨#[]⟩, .int .i64 0, .string ⟨#[]⟩])
 have he := He0.new (.cells #[.int .i64 0, .slice none 0 0, .slice none 0 0, .slice none 0 0, .int .i64 0, .slice none 0 0, .int .i64 0, .slice none 0 0, .int .i64 0, .int .i64 0, .string ⟨#[]⟩, .int .i64 0, .string ⟨#[]⟩] 59)
 obtain ⟨w1, hw1⟩ : ∃ w1, w1 = w0.alloc (.cells #[.int .i64 0, .slice none 0 0, .slice none 0 0, .slice none 0 0, .int .i64 0, .slice none 0 0, .int .i64 0, .slice none 0 0, .int .i64 0, .int .i64 0, .string ⟨#[]⟩, .int .i64 0, .string ⟨#[]⟩] 59) := ⟨_, rfl⟩
 rw [← hw1] at KA KB he
 have W0 := Lib.hid hw0; have W1 := Lib.hid hw1
 rw [hs0] at KB
 clear K0 K0' He0 hw0 hw1 hs0
 go_enter Tryz.func24, Tryz.ntmps24
 go_upto_region 1 with fail
 rw [← W0.out]
 rw [← W1.out]
 obtain ⟨gR, hgR⟩ : ∃ gR, gR = w.heap.size + 1 := ⟨_, rfl⟩
 rw [← hgR] at KB
 rw [← hgR]
 have HgR := Lib.hid hgR
 clear hgR W0 W1
 go_wp2_with fail
 have hs1 := he.size
 refine (specBrokerNew_yes n _ b1).mono ?_
 rintro e w2 ⟨q, rfl, hq, kq, h2⟩
 replace KA := KA.ext h2; replace KB := KB.ext h2; replace he := he.next h2
 obtain ⟨h0, hh0⟩ : ∃ h0, h0 = newH true n := ⟨_, rfl⟩
 have kq' : w2.ownsRow w.heap.size 55 5 (.slice (some ⟨q, 0, none⟩) 1 1) 1 ([h0].flatMap HeadD.cells) := by
  have := Blk.ownsRow (xs := (newH true n).cells) kq 1 5 w.heap.size (Nat.le_trans hs1 hq) rfl (by unfold maxLen; omega)
  rw [hh0]; simpa using this
 rw [← hh0]
 have HH0 := Lib.hid hh0
 clear hh0 kq hq hs1
 simp only [brokNC]
 have hRV : gR < w2.heap.size := KB.lt
 have KV0 := Blk.new w2 59 #[.int .i64 0, .slice none 0 0, .slice none 0 0, .slice none 0 0, .int .i64 0, .slice none 0 0, .int .i64 0, .slice none 0 0, .int .i64 0, .int .i64 0, .string ⟨#[]⟩, .int .i64 0, .string ⟨#[]⟩]
 obtain ⟨w3, hw3, KV, hx⟩ : ∃ w3, w3 = (w2.alloc (.cells #[.int .i64 0, .slice none 0 0, .slice none 0 0, .slice none 0 0, .int .i64 0, .slice none 0 0, .int .i64 0, .slice none 0 0, .int .i64 0, .int .i64 0, .string ⟨#[]⟩, .int .i64 0, .string ⟨#[]⟩] 59)).setCells w2.heap.size 0 [.int .i64 n, .slice none 0 0, .slice none 0 0, .slice (some ⟨q, 0, none⟩) 1 1, .int .i64 0, .slice none 0 0, .int .i64 0, .slice none 0 0, .int .i64 (h0).number, .int .i64 (h0).size, .string (h0).root, .int .i64 (h0).taken, .string (h0).takenRoot] ∧ Blk w3 w2.heap.size 59 #[.int .i64 n, .slice none 0 0, .slice none 0 0, .slice (some ⟨q, 0, none⟩) 1 1, .int .i64 0, .slice none 0 0, .int .i64 0, .slice none 0 0, .int .i64 (h0).number, .int .i64 (h0).size, .string (h0).root, .int .i64 (h0).taken, .string (h0).takenRoot] ∧ Ext w2 w3 :=
  ⟨_, rfl, KV0.put 0 [.int .i64 n, .slice none 0 0, .slice none 0 0, .slice (some ⟨q, 0, none⟩) 1 1, .int .i64 0, .slice none 0 0, .int .i64 0, .slice none 0 0, .int .i64 (h0).number, .int .i64 (h0).size, .string (h0).root, .int .i64 (h0).taken, .string (h0).takenRoot] #[.int .i64 n, .slice none 0 0, .slice none 0 0, .slice (some ⟨q, 0, none⟩) 1 1, .int .i64 0, .slice none 0 0, .int .i64 0, .slice none 0 0, .int .i64 (h0).number, .int .i64 (h0).size, .string (h0).root, .int .i64 (h0).taken, .string (h0).takenRoot] (by simp) rfl, ext_setCells (W := w2) (g := w2.heap.size) (Nat.le_refl _) [.int .i64 n, .slice none 0 0, .slice none 0 0, .slice (some ⟨q, 0, none⟩) 1 1, .int .i64 0, .slice none 0 0, .int .i64 0, .slice none 0 0, .int .i64 (h0).number, .int .i64 (h0).size, .string (h0).root, .int .i64 (h0).taken, .string (h0).takenRoot] 0 _ (Ext.new (Below.refl _ _) _)⟩
 have T4 := Lib.hid (KV0.there 0 13 (by simp))
 have HW := Lib.hid hw3
 replace KA := KA.ext hx; replace KB := KB.ext hx; replace he := he.next hx
 replace kq' := ownsRow_ext kq' hx
 clear hw3 hx KV0 h2
 go_upto_region 2 with (refine wpList_store_list rfl 59 _ _ rfl rfl w2.heap.size 0 [.int .i64 n, .slice none 0 0, .slice none 0 0, .slice (some ⟨q, 0, none⟩) 1 1, .int .i64 0, .slice none 0 0, .int .i64 0, .slice none 0 0, .int .i64 (h0).number, .int .i64 (h0).size, .string (h0).root, .int .i64 (h0).taken, .string (h0).takenRoot] rfl rfl T4.out (by kernel_rfl) (by rfl) ?_; rw [← HW.out])
 obtain ⟨gV, hgV⟩ : ∃ gV, gV = w2.heap.size := ⟨_, rfl⟩
 rw [← hgV] at KV hRV
 rw [← hgV]
 clear hgV T4 HW
 obtain ⟨ac, af⟩ := KA.rules
 go_wp2_with fail
 refine (specDiskOk_any A c l _ (HR.out.ext he) hl).mono ?_
 rintro e w4 ⟨rfl, h4⟩
 rw [q1]
 replace KA := KA.ext h4; replace KB := KB.ext h4; replace KV := KV.ext h4; replace he := he.next h4; replace kq' := ownsRow_ext kq' h4
 clear ac af h4
 have hAR : w.heap.size < gR := by have := HgR.out; omega
 have G4 := Lib.hid he
 -- the rows of damages and of the files' texts
 go_upto_region 6 with fail
 have o1 := ownsRow_empty w4 112 3
 have e1 := Ext.new (Below.refl w4.heap.size w4) (.cells #[] 112)
 have o2 := ownsRow_empty (w4.alloc (.cells #[] 112)) 22 1
 have e2 := e1.new (.cells #[] 22)
 have o1' := ownsRow_base (World.ownsRow.alloc o1 (.cells #[] 22)) he.size
 have o2' := ownsRow_base o2 (Nat.le_trans he.size e1.size)
 replace KA := KA.ext e2; replace KB := KB.ext e2; replace KV := KV.ext e2; replace he := he.next e2; replace kq' := ownsRow_ext kq' e2
 obtain ⟨d1, hd1⟩ : ∃ d1, d1 = w4.heap.size := ⟨_, rfl⟩
 rw [World.size_alloc, ← hd1] at o2'
 rw [← hd1] at o1'
 (try rw [← hd1])
 clear o1 o2 e1 e2 G4
 obtain ⟨w5, hw5⟩ : ∃ w5, w5 = (w4.alloc (.cells #[] 112)).alloc (.cells #[] 22) := ⟨_, rfl⟩
 rw [← hw5] at KA KB KV he kq' o1' o2'
 rw [← hw5]
 have KAH := Lib.hid KA; have KBH := Lib.hid KB; have KVH := Lib.hid KV; have HEH := Lib.hid he; have O1 := Lib.hid o1'; have O2 := Lib.hid o2'; have KQ := Lib.hid kq'
 clear hw5 hd1 KA KB KV he o1' o2' kq'
 go_wp2_with fail
 go_loopw [9, 10, 11] (fun v9 v10 i wr => ∃ (k : Nat) (vs : List Value), k ≤ 3 ∧ i = .int .i64 k ∧ vs.length = k ∧ (∀ j, j < k → RowT w.heap.size wr (vs.getD j undef) (filesOf l j)) ∧ wr.ownsRow w.heap.size 22 1 v10 k vs ∧ wr.ownsRow w.heap.size 112 3 v9 (dmgW (dmgs 0 (l.take k))).length ((dmgW (dmgs 0 (l.take k))).flatMap WriteD.cells) ∧
  wr.ownsRow w.heap.size 55 5 (.slice (some ⟨q, 0, none⟩) 1 1) 1 ([h0].flatMap HeadD.cells) ∧ Blk wr w.heap.size 27 #[.slice A l.length c] ∧ Blk wr gR 59 #[.int .i64 0, .slice none 0 0, .slice none 0 0, .slice none 0 0, .int .i64 0, .slice none 0 0, .int .i64 0, .slice none 0 0, .int .i64 0, .int .i64 0, .string ⟨#[]⟩, .int .i64 0, .string ⟨#[]⟩] ∧ Blk wr gV 59 #[.int .i64 n, .slice none 0 0, .slice none 0 0, .slice (some ⟨q, 0, none⟩) 1 1, .int .i64 0, .slice none 0 0, .int .i64 0, .slice none 0 0, .int .i64 (h0).number, .int .i64 (h0).size, .string (h0).root, .int .i64 (h0).taken, .string (h0).takenRoot] ∧ Ext w wr) (fun _ _ i _ => 3 - (intOf i).toNat)
 case atStart => exact ⟨0, [], Nat.zero_le _, rfl, rfl, (fun j hj => absurd hj (Nat.not_lt_zero _)), O2.out, O1.out, KQ.out, KAH.out, KBH.out, KVH.out, HEH.out⟩
 case round =>
  clear KAH KBH KVH HEH O1 O2 KQ
  obtain ⟨k, vs, hk, rfl, hvs, hrows, ho10, ho9, hoh, KA, KB, KV, he⟩ := hrel
  obtain ⟨V, cv, rfl, hnc⟩ := ownsRow_form ho9
  obtain ⟨P, cp, rfl, hnp⟩ := ownsRow_form ho10
  have Hrows := Lib.hid hrows; have Hvs := Lib.hid hvs; have OP := Lib.hid ho10; have KO := Lib.hid ho9; have OH := Lib.hid hoh
  clear hrows hvs ho10 ho9 hoh
  by_cases hlt : k < 3
  case neg =>
   obtain rfl : k = 3 := by omega
   clear KA
   rw [show dmgW (dmgs 0 (l.take 3)) = dmgW (dmgs 0 l) by rw [List.take_of_length_le (by rw [HL3.out]; exact Nat.le_refl 3)]]
   have KO := Lib.hid (show wr.ownsRow w.heap.size 112 3 (.slice V (dmgW (dmgs 0 l)).length cv) (dmgW (dmgs 0 l)).length ((dmgW (dmgs 0 l)).flatMap WriteD.cells) by have := KO.out; rwa [List.take_of_length_le (by rw [HL3.out]; exact Nat.le_refl 3)] at this)
   obtain ⟨v0, v1, v2, rfl⟩ : ∃ v0 v1 v2, vs = [v0, v1, v2] := by
    match vs, Hvs.out with
    | [a, b, c], _ => exact ⟨a, b, c, rfl⟩
   have r0 : RowT w.heap.size wr v0 (filesOf l 0) := Hrows.out 0 (by omega)
   have r1 : RowT w.heap.size wr v1 (filesOf l 1) := Hrows.out 1 (by omega)
   have r2 : RowT w.heap.size wr v2 (filesOf l 2) := Hrows.out 2 (by omega)
   have fl0 := files_len l 0; have fl1 := files_len l 1; have fl2 := files_len l 2
   have fs0 := files_size Hsz.out 0; have fs1 := files_size Hsz.out 1; have fs2 := files_size Hsz.out 2
   have hes : esS l = (filesOf l 0).map (fun x => rlOut (rlSpec x) (rlD x)) := rfl
   have hrs : rsS l = (filesOf l 2).map (fun x => rrOutQ (rrSpec x) (rrD x)) := rfl
   have hhs : hsS n l = (filesOf l 1).map (fun x => hrOut (hrSpec n x) (hrD n x)) := rfl
   obtain ⟨F0, hF0⟩ : ∃ F0, F0 = filesOf l 0 := ⟨_, rfl⟩
   obtain ⟨F1, hF1⟩ : ∃ F1, F1 = filesOf l 1 := ⟨_, rfl⟩
   obtain ⟨F2, hF2⟩ : ∃ F2, F2 = filesOf l 2 := ⟨_, rfl⟩
   rw [← hF0] at r0 fl0 fs0 hes
   rw [← hF1] at r1 fl1 fs1 hhs
   rw [← hF2] at r2 fl2 fs2 hrs
   have HF0 := Lib.hid hF0; have HF1 := Lib.hid hF1; have HF2 := Lib.hid hF2; have FS0 := Lib.hid fs0; have FS1 := Lib.hid fs1; have FS2 := Lib.hid fs2; have HES := Lib.hid hes; have HRS := Lib.hid hrs; have HHS := Lib.hid hhs
   clear hF0 hF1 hF2 fs0 fs1 fs2 hes hrs hhs Hrows Hvs
   obtain ⟨A0, a0, rfl, r9⟩ := r0.cells
   clear r9
   obtain ⟨A1, a1, rfl, r9⟩ := r1.cells
   clear r9
   obtain ⟨A2, a2, rfl, r9⟩ := r2.cells
   clear r9
   obtain ⟨dm, hdm⟩ : ∃ dm, dm = dmgW (dmgs 0 l) := ⟨_, rfl⟩
   rw [← hdm] at KO
   rw [← hdm]
   have HDM := Lib.hid hdm
   clear hdm hnc hnp
   obtain ⟨bp, cq, eP⟩ := row_three OP.out
   obtain ⟨rfl, rfl⟩ : P = some ⟨bp, 0, none⟩ ∧ cp = cq := by simpa using eP
   clear eP
   have RL := Lib.hid (RowsIn.cons KO.out (RowsIn.cons OH.out (RowsIn.cons OP.out (RowsIn.cons r0 (RowsIn.cons r1 (RowsIn.cons r2 (RowsIn.nil w.heap.size wr)))))))
   clear KO OH OP r0 r1 r2
   go_wp2_with fail
   obtain ⟨iE, hiE, hz0E, hz1E, hz2E⟩ := info_parts info_entry
   obtain ⟨iR, hiR, hz0R, hz1R, hz2R⟩ := info_parts info_receipt
   obtain ⟨iH, hiH, hz0H, hz1H, hz2H⟩ := info_parts info_head
   have OS := Lib.hid (World.ownsRow_nil wr w.heap.size 46 5)
   have RLH := Lib.hid (show RowsIn w.heap.size wr [(112, 3, .slice V dm.length cv, dm.length, dm.flatMap WriteD.cells), (22, 1, .slice (some ⟨bp, 0, none⟩) 3 cp, 3, [.slice A0 F0.length a0, .slice A1 F1.length a1, .slice A2 F2.length a2]), (9, 1, .slice A0 F0.length a0, F0.length, F0.flatMap sone), (9, 1, .slice A1 F1.length a1, F1.length, F1.flatMap sone), (9, 1, .slice A2 F2.length a2, F2.length, F2.flatMap sone), (55, 5, .slice (some ⟨q, 0, none⟩) 1 1, 1, [h0].flatMap HeadD.cells)] from RowsIn.cons (RL.out.head) (RowsIn.cons (RL.out.tail.tail.head) (RowsIn.cons (RL.out.tail.tail.tail.head) (RowsIn.cons (RL.out.tail.tail.tail.tail.head) (RowsIn.cons (RL.out.tail.tail.tail.tail.tail.head) (RowsIn.cons (RL.out.tail.head) (RowsIn.nil _ _)))))))
   have KVH := Lib.hid KV; have KBH := Lib.hid KB; have heH := Lib.hid he
   clear RL KV KB he
   have RL := RLH; have KV := KVH; have KB := KBH; have he := heH
   clear RLH KVH KBH heH
   go_loopw [14, 15] (fun cd i wr => ∃ (k : Nat) (v : Value), k ≤ F0.length ∧ i = .int .i64 k ∧ cd = .int .i64 ((cB 0 2 rlSpec (F0.take k) : Nat) : Int) ∧ wr.ownsRow w.heap.size 46 5 v (k) (((F0.take k).map (fun x => rlOut (rlSpec x) (rlD x))).flatMap EntryD.cells) ∧ Blk wr gV 59 #[.int .i64 n, v, .slice none 0 0, .slice (some ⟨q, 0, none⟩) 1 1, .int .i64 0, .slice none 0 0, .int .i64 0, .slice none 0 0, .int .i64 (h0).number, .int .i64 (h0).size, .string (h0).root, .int .i64 (h0).taken, .string (h0).takenRoot] ∧ Blk wr gR 59 #[.int .i64 0, .slice none 0 0, .slice none 0 0, .slice none 0 0, .int .i64 0, .slice none 0 0, .int .i64 0, .slice none 0 0, .int .i64 0, .int .i64 0, .string ⟨#[]⟩, .int .i64 0, .string ⟨#[]⟩] ∧ RowsIn w.heap.size wr [(112, 3, .slice V dm.length cv, dm.length, dm.flatMap WriteD.cells), (22, 1, .slice (some ⟨bp, 0, none⟩) 3 cp, 3, [.slice A0 F0.length a0, .slice A1 F1.length a1, .slice A2 F2.length a2]), (9, 1, .slice A0 F0.length a0, F0.length, F0.flatMap sone), (9, 1, .slice A1 F1.length a1, F1.length, F1.flatMap sone), (9, 1, .slice A2 F2.length a2, F2.length, F2.flatMap sone), (55, 5, .slice (some ⟨q, 0, none⟩) 1 1, 1, [h0].flatMap HeadD.cells)] ∧ Ext w wr) (fun _ i _ => F0.length - (intOf i).toNat)
   case atStart => exact ⟨0, _, Nat.zero_le _, rfl, congrArg (fun x : Nat => Value.int .i64 (x : Int)) (cB_nil 0 2 rlSpec).symm, OS.out, KV.out, KB.out, RL.out, he.out⟩
   case round =>
    clear KV KB RL he OS
    obtain ⟨k, v, hk, rfl, rfl, hown, KV, KB, hrl, he⟩ := hrel
    obtain ⟨VE, cE, rfl, hnE⟩ := ownsRow_form hown
    have RL := Lib.hid hrl; have KO := Lib.hid hown
    clear hrl hown
    obtain ⟨cc, hcc⟩ : ∃ cc, cc = cB 0 2 rlSpec (F0.take k) := ⟨_, rfl⟩
    rw [← hcc]
    have HC := Lib.hid hcc
    clear hcc
    obtain ⟨p9, p0, p1, p2⟩ := three_cells (RL.out.tail.head)
    clear p9
    by_cases hlt : k < F0.length
    case neg =>
     obtain rfl : k = F0.length := by omega
     go_upto_region 21 with fail
     clear p0 p1 p2
     have KO := Lib.hid (show wr.ownsRow w.heap.size 46 5 (.slice VE (esS l).length cE) (esS l).length ((esS l).flatMap EntryD.cells) by
      have := KO.out
      rw [HES.out, List.length_map]
      rwa [List.take_length] at this)
     have HC := Lib.hid (show cc = cB 0 2 rlSpec F0 by have := HC.out; rwa [List.take_length] at this)
     have EL : F0.length = (esS l).length := by rw [HES.out, List.length_map]
     have ELH := Lib.hid EL
     have KVH := Lib.hid (show Blk wr gV 59 #[.int .i64 n, .slice VE (esS l).length cE, .slice none 0 0, .slice (some ⟨q, 0, none⟩) 1 1, .int .i64 0, .slice none 0 0, .int .i64 0, .slice none 0 0, .int .i64 (h0).number, .int .i64 (h0).size, .string (h0).root, .int .i64 (h0).taken, .string (h0).takenRoot] by rw [← EL]; exact KV)
     rw [EL]
     clear EL KV
     obtain ⟨es, hes⟩ : ∃ es, es = esS l := ⟨_, rfl⟩
     rw [← hes] at KO KVH
     rw [← hes]
     have HE := Lib.hid hes
     clear hes
     have KV := KVH.out
     clear KVH
     have OKE := Lib.hid (show ∀ x ∈ es, x.Ok from fun x hx => by
      rw [HE.out, HES.out] at hx
      obtain ⟨y, hy, rfl⟩ := List.mem_map.1 hx
      exact rlOut_ok _ y (FS0.out y hy))
     obtain ⟨bd, hbd⟩ : ∃ bd, bd = (decide (cc = 0) && !(logOk es)) := ⟨_, rfl⟩
     have HBD := Lib.hid hbd
     clear hbd
     replace RL := Lib.hid (RowsIn.cons KO.out RL.out)
     go_cut [107] from 100 to 107 (fun v107 wx => v107 = .bool bd ∧ Ext wr wx)
     case first =>
      rcases Nat.eq_zero_or_pos cc with z0 | z0
      · have z1 : ((cc : Int) == 0) = true := beq_iff_eq.2 (by omega)
        have z2 := Lib.hid z0
        obtain ⟨rv, fv⟩ := KV.rules
        clear z0
        go_wp2_with fail
        refine (specLogOk_any VE cE es _ (slf_at KO.out) OKE.out).mono ?_
        rintro e wx ⟨rfl, h1⟩
        go_wp2_with fail
        go_meet
        case rel => exact ⟨by rw [HBD.out, decide_eq_true z2.out, Bool.true_and], h1⟩
      · have z1 : ((cc : Int) == 0) = false := beq_false_of_ne (by omega)
        have z2 := Lib.hid (show ¬ cc = 0 by omega)
        clear z0
        go_wp2_with fail
        go_meet
        case rel => exact ⟨by rw [HBD.out, decide_eq_false z2.out, Bool.false_and], Below.refl _ _⟩
     case rest =>
     obtain ⟨rfl, h1⟩ := hcut
     replace KV := KV.ext h1; replace KB := KB.ext h1; replace RL := Lib.hid (RowsIn.ext RL.out h1); replace he := he.next h1
     clear h1 KO
     have C1 := Lib.hid (show code1 l = if bd = true then 2 else cc by
      rw [HBD.out, HC.out, HE.out, code1, ← HF0.out, cB, if_pos rfl]
      cases F0.all rlSpec
      · simp
      · cases logOk (esS l) <;> simp)
     obtain ⟨k1, hk1⟩ : ∃ k1, k1 = code1 l := ⟨_, rfl⟩
     rw [← hk1] at C1
     have HK1 := Lib.hid hk1
     clear hk1
     go_upto_if 107 with fail
     go_cut [14] from 14 to 14 (fun v14 wx => v14 = .int .i64 (k1 : Int) ∧ wx = wc)
     case first =>
      cases bd
      · have c1 := C1.out
        rw [if_neg (by decide)] at c1
        have CE := Lib.hid c1
        clear c1
        go_wp2_with fail
        go_meet
        case rel => exact ⟨by rw [CE.out], rfl⟩
      · have c1 := C1.out
        rw [if_pos rfl] at c1
        have CE := Lib.hid c1
        clear c1
        go_wp2_with fail
        go_meet
        case rel => exact ⟨by rw [CE.out]; rfl, rfl⟩
     case rest =>
     obtain ⟨rfl, rfl⟩ := hcut
     obtain ⟨wk, hwk⟩ := blk_name KB
     have RL2 := Lib.hid (show RowsIn w.heap.size _ [(112, 3, .slice V dm.length cv, dm.length, dm.flatMap WriteD.cells), (22, 1, .slice (some ⟨bp, 0, none⟩) 3 cp, 3, [.slice A0 F0.length a0, .slice A1 F1.length a1, .slice A2 F2.length a2]), (9, 1, .slice A0 F0.length a0, F0.length, F0.flatMap sone), (9, 1, .slice A1 F1.length a1, F1.length, F1.flatMap sone), (9, 1, .slice A2 F2.length a2, F2.length, F2.flatMap sone), (55, 5, .slice (some ⟨q, 0, none⟩) 1 1, 1, [h0].flatMap HeadD.cells), (46, 5, .slice VE es.length cE, es.length, es.flatMap EntryD.cells)] from RowsIn.cons (RL.out.tail.head) (RowsIn.cons (RL.out.tail.tail.head) (RowsIn.cons (RL.out.tail.tail.tail.head) (RowsIn.cons (RL.out.tail.tail.tail.tail.head) (RowsIn.cons (RL.out.tail.tail.tail.tail.tail.head) (RowsIn.cons (RL.out.tail.tail.tail.tail.tail.tail.head) (RowsIn.cons (RL.out.head) (RowsIn.nil _ _))))))))
     clear RL
     have RL := RL2
     clear RL2
     subst hwk
     have OS := Lib.hid (World.ownsRow_nil wk w.heap.size 77 3)
     go_wp2_with fail
     have KVH := Lib.hid KV; have KBH := Lib.hid KB; have heH := Lib.hid he
     clear KV KB he
     have KV := KVH; have KB := KBH; have he := heH
     clear KVH KBH heH
     go_loopw [14, 18] (fun cd i wr => ∃ (k : Nat) (v : Value), k ≤ F2.length ∧ i = .int .i64 k ∧ cd = .int .i64 ((cB k1 3 rrSpec (F2.take k) : Nat) : Int) ∧ wr.ownsRow w.heap.size 77 3 v (k) (((F2.take k).map (fun x => rrOutQ (rrSpec x) (rrD x))).flatMap ReceiptD.cells) ∧ Blk wr gV 59 #[.int .i64 n, .slice VE es.length cE, v, .slice (some ⟨q, 0, none⟩) 1 1, .int .i64 0, .slice none 0 0, .int .i64 0, .slice none 0 0, .int .i64 (h0).number, .int .i64 (h0).size, .string (h0).root, .int .i64 (h0).taken, .string (h0).takenRoot] ∧ Blk wr gR 59 #[.int .i64 0, .slice none 0 0, .slice none 0 0, .slice none 0 0, .int .i64 0, .slice none 0 0, .int .i64 0, .slice none 0 0, .int .i64 0, .int .i64 0, .string ⟨#[]⟩, .int .i64 0, .string ⟨#[]⟩] ∧ RowsIn w.heap.size wr [(112, 3, .slice V dm.length cv, dm.length, dm.flatMap WriteD.cells), (22, 1, .slice (some ⟨bp, 0, none⟩) 3 cp, 3, [.slice A0 F0.length a0, .slice A1 F1.length a1, .slice A2 F2.length a2]), (9, 1, .slice A0 F0.length a0, F0.length, F0.flatMap sone), (9, 1, .slice A1 F1.length a1, F1.length, F1.flatMap sone), (9, 1, .slice A2 F2.length a2, F2.length, F2.flatMap sone), (55, 5, .slice (some ⟨q, 0, none⟩) 1 1, 1, [h0].flatMap HeadD.cells), (46, 5, .slice VE es.length cE, es.length, es.flatMap EntryD.cells)] ∧ Ext w wr) (fun _ i _ => F2.length - (intOf i).toNat)
     case atStart => exact ⟨0, _, Nat.zero_le _, rfl, congrArg (fun x : Nat => Value.int .i64 (x : Int)) (cB_nil k1 3 rrSpec).symm, OS.out, KV.out, KB.out, RL.out, he.out⟩
     case round =>
      clear KV KB RL he OS
      obtain ⟨k, v, hk, rfl, rfl, hown, KV, KB, hrl, he⟩ := hrel
      obtain ⟨VR, cR, rfl, hnR⟩ := ownsRow_form hown
      have RL := Lib.hid hrl; have KO := Lib.hid hown
      clear hrl hown
      obtain ⟨cc, hcc⟩ : ∃ cc, cc = cB k1 3 rrSpec (F2.take k) := ⟨_, rfl⟩
      rw [← hcc]
      have HC := Lib.hid hcc
      clear hcc
      obtain ⟨p9, p0, p1, p2⟩ := three_cells (RL.out.tail.head)
      clear p9
      by_cases hlt : k < F2.length
      case neg =>
       obtain rfl : k = F2.length := by omega
       go_upto_region 30 with fail
       clear p0 p1 p2
       have KO := Lib.hid (show wr.ownsRow w.heap.size 77 3 (.slice VR (rsS l).length cR) (rsS l).length ((rsS l).flatMap ReceiptD.cells) by
        have := KO.out
        rw [HRS.out, List.length_map]
        rwa [List.take_length] at this)
       have HC := Lib.hid (show cc = cB k1 3 rrSpec F2 by have := HC.out; rwa [List.take_length] at this)
       have EL : F2.length = (rsS l).length := by rw [HRS.out, List.length_map]
       have KVH := Lib.hid (show Blk wr gV 59 #[.int .i64 n, .slice VE es.length cE, .slice VR (rsS l).length cR, .slice (some ⟨q, 0, none⟩) 1 1, .int .i64 0, .slice none 0 0, .int .i64 0, .slice none 0 0, .int .i64 (h0).number, .int .i64 (h0).size, .string (h0).root, .int .i64 (h0).taken, .string (h0).takenRoot] by rw [← EL]; exact KV)
       rw [EL]
       clear EL KV
       obtain ⟨rs, hrs⟩ : ∃ rs, rs = rsS l := ⟨_, rfl⟩
       rw [← hrs] at KO KVH
       rw [← hrs]
       have HR2 := Lib.hid hrs
       clear hrs
       have KV := KVH.out
       clear KVH
       have OKR := Lib.hid (show ∀ x ∈ rs, x.Ok from fun x hx => by
        rw [HR2.out, HRS.out] at hx
        obtain ⟨y, hy, rfl⟩ := List.mem_map.1 hx
        exact rrOut_ok _ y (FS2.out y hy))
       obtain ⟨bd, hbd⟩ : ∃ bd, bd = (decide (cc = 0) && !(recsOk rs)) := ⟨_, rfl⟩
       have HBD := Lib.hid hbd
       clear hbd
       replace RL := Lib.hid (RowsIn.cons KO.out RL.out)
       go_cut [145] from 138 to 145 (fun v145 wx => v145 = .bool bd ∧ Ext wr wx)
       case first =>
        rcases Nat.eq_zero_or_pos cc with z0 | z0
        · have z1 : ((cc : Int) == 0) = true := beq_iff_eq.2 (by omega)
          have z2 := Lib.hid z0
          obtain ⟨rv, fv⟩ := KV.rules
          clear z0
          go_wp2_with fail
          refine (l12ReceiptsOk_any VR cR rs _ (slf_at KO.out) OKR.out).mono ?_
          rintro e wx ⟨rfl, h1⟩
          go_wp2_with fail
          go_meet
          case rel => exact ⟨by rw [HBD.out, decide_eq_true z2.out, Bool.true_and], h1⟩
        · have z1 : ((cc : Int) == 0) = false := beq_false_of_ne (by omega)
          have z2 := Lib.hid (show ¬ cc = 0 by omega)
          clear z0
          go_wp2_with fail
          go_meet
          case rel => exact ⟨by rw [HBD.out, decide_eq_false z2.out, Bool.false_and], Below.refl _ _⟩
       case rest =>
       obtain ⟨rfl, h1⟩ := hcut
       replace KV := KV.ext h1; replace KB := KB.ext h1; replace RL := Lib.hid (RowsIn.ext RL.out h1); replace he := he.next h1
       clear h1 KO
       have C2 := Lib.hid (show code2 l = if bd = true then 3 else cc by
        rw [HBD.out, HC.out, HR2.out, code2, ← HK1.out, ← HF2.out, cB]
        by_cases h : k1 = 0
        · rw [if_pos h, if_pos h]
          cases F2.all rrSpec
          · simp
          · cases recsOk (rsS l) <;> simp
        · rw [if_neg h, if_neg h]
          simp [h])
       obtain ⟨k2, hk2⟩ : ∃ k2, k2 = code2 l := ⟨_, rfl⟩
       rw [← hk2] at C2
       have HK2 := Lib.hid hk2
       clear hk2
       go_upto_if 145 with fail
       go_cut [14] from 14 to 14 (fun v14 wx => v14 = .int .i64 (k2 : Int) ∧ wx = wc)
       case first =>
        cases bd
        · have c1 := C2.out
          rw [if_neg (by decide)] at c1
          have CE := Lib.hid c1
          clear c1
          go_wp2_with fail
          go_meet
          case rel => exact ⟨by rw [CE.out], rfl⟩
        · have c1 := C2.out
          rw [if_pos rfl] at c1
          have CE := Lib.hid c1
          clear c1
          go_wp2_with fail
          go_meet
          case rel => exact ⟨by rw [CE.out]; rfl, rfl⟩
       case rest =>
       obtain ⟨rfl, rfl⟩ := hcut
       obtain ⟨wk, hwk⟩ := blk_name KB
       have OS := Lib.hid (RL.out.tail.tail.tail.tail.tail.tail.head)
       have RL2 := Lib.hid (show RowsIn w.heap.size _ [(112, 3, .slice V dm.length cv, dm.length, dm.flatMap WriteD.cells), (22, 1, .slice (some ⟨bp, 0, none⟩) 3 cp, 3, [.slice A0 F0.length a0, .slice A1 F1.length a1, .slice A2 F2.length a2]), (9, 1, .slice A0 F0.length a0, F0.length, F0.flatMap sone), (9, 1, .slice A1 F1.length a1, F1.length, F1.flatMap sone), (9, 1, .slice A2 F2.length a2, F2.length, F2.flatMap sone), (46, 5, .slice VE es.length cE, es.length, es.flatMap EntryD.cells), (77, 3, .slice VR rs.length cR, rs.length, rs.flatMap ReceiptD.cells)] from RowsIn.cons (RL.out.tail.head) (RowsIn.cons (RL.out.tail.tail.head) (RowsIn.cons (RL.out.tail.tail.tail.head) (RowsIn.cons (RL.out.tail.tail.tail.tail.head) (RowsIn.cons (RL.out.tail.tail.tail.tail.tail.head) (RowsIn.cons (RL.out.tail.tail.tail.tail.tail.tail.tail.head) (RowsIn.cons (RL.out.head) (RowsIn.nil _ _))))))))
       clear RL
       have RL := RL2
       clear RL2
       subst hwk
       go_wp2_with fail
       have KVH := Lib.hid KV; have KBH := Lib.hid KB; have heH := Lib.hid he
       clear KV KB he
       have KV := KVH; have KB := KBH; have he := heH
       clear KVH KBH heH
       go_loopw [14, 21] (fun cd i wr => ∃ (k : Nat) (v : Value), k ≤ F1.length ∧ i = .int .i64 k ∧ cd = .int .i64 ((cB k2 4 (hrSpec n) (F1.take k) : Nat) : Int) ∧ wr.ownsRow w.heap.size 55 5 v (k + 1) ((h0 :: (F1.take k).map (fun x => hrOut (hrSpec n x) (hrD n x))).flatMap HeadD.cells) ∧ Blk wr gV 59 #[.int .i64 n, .slice VE es.length cE, .slice VR rs.length cR, v, .int .i64 0, .slice none 0 0, .int .i64 0, .slice none 0 0, .int .i64 (h0).number, .int .i64 (h0).size, .string (h0).root, .int .i64 (h0).taken, .string (h0).takenRoot] ∧ Blk wr gR 59 #[.int .i64 0, .slice none 0 0, .slice none 0 0, .slice none 0 0, .int .i64 0, .slice none 0 0, .int .i64 0, .slice none 0 0, .int .i64 0, .int .i64 0, .string ⟨#[]⟩, .int .i64 0, .string ⟨#[]⟩] ∧ RowsIn w.heap.size wr [(112, 3, .slice V dm.length cv, dm.length, dm.flatMap WriteD.cells), (22, 1, .slice (some ⟨bp, 0, none⟩) 3 cp, 3, [.slice A0 F0.length a0, .slice A1 F1.length a1, .slice A2 F2.length a2]), (9, 1, .slice A0 F0.length a0, F0.length, F0.flatMap sone), (9, 1, .slice A1 F1.length a1, F1.length, F1.flatMap sone), (9, 1, .slice A2 F2.length a2, F2.length, F2.flatMap sone), (46, 5, .slice VE es.length cE, es.length, es.flatMap EntryD.cells), (77, 3, .slice VR rs.length cR, rs.length, rs.flatMap ReceiptD.cells)] ∧ Ext w wr) (fun _ i _ => F1.length - (intOf i).toNat)
       case atStart => exact ⟨0, _, Nat.zero_le _, rfl, congrArg (fun x : Nat => Value.int .i64 (x : Int)) (cB_nil k2 4 (hrSpec n)).symm, OS.out, KV.out, KB.out, RL.out, he.out⟩
       case round =>
        clear KV KB RL he OS
        obtain ⟨k, v, hk, rfl, rfl, hown, KV, KB, hrl, he⟩ := hrel
        obtain ⟨VH, cH, rfl, hnH⟩ := ownsRow_form hown
        have RL := Lib.hid hrl; have KO := Lib.hid hown
        clear hrl hown
        obtain ⟨cc, hcc⟩ : ∃ cc, cc = cB k2 4 (hrSpec n) (F1.take k) := ⟨_, rfl⟩
        rw [← hcc]
        have HC := Lib.hid hcc
        clear hcc
        obtain ⟨p9, p0, p1, p2⟩ := three_cells (RL.out.tail.head)
        clear p9
        by_cases hlt : k < F1.length
        case neg =>
         obtain rfl : k = F1.length := by omega
         go_upto_region 39 with fail
         clear p0 p1 p2
         rename_i KX ax KK aa
         revert ax aa
         go_light
         intro ax aa
         have KO := Lib.hid (show wr.ownsRow w.heap.size 55 5 (.slice VH (newHs n l).length cH) (newHs n l).length ((newHs n l).flatMap HeadD.cells) by
          have := KO.out
          rw [newHs, HHS.out, ← HH0.out, List.length_cons, List.length_map]
          rwa [List.take_length] at this)
         have HC := Lib.hid (show cc = cB k2 4 (hrSpec n) F1 by have := HC.out; rwa [List.take_length] at this)
         have EL : F1.length + 1 = (newHs n l).length := by rw [newHs, HHS.out, List.length_cons, List.length_map]
         have KVH := Lib.hid (show Blk wr gV 59 #[.int .i64 n, .slice VE es.length cE, .slice VR rs.length cR, .slice VH (newHs n l).length cH, .int .i64 0, .slice none 0 0, .int .i64 0, .slice none 0 0, .int .i64 (h0).number, .int .i64 (h0).size, .string (h0).root, .int .i64 (h0).taken, .string (h0).takenRoot] by rw [← EL]; exact KV)
         (try rw [EL])
         have hsl : (newHs n l).length ≤ 601 := by omega
         have hs0 : 0 < (newHs n l).length := by omega
         clear EL KV
         obtain ⟨hs, hhs⟩ : ∃ hs, hs = newHs n l := ⟨_, rfl⟩
         rw [← hhs] at KO KVH hsl hs0
         (try rw [← hhs])
         have HH := Lib.hid hhs
         clear hhs
         have KV := KVH.out
         clear KVH
         replace RL := Lib.hid (RowsIn.cons KO.out RL.out)
         have C3 := Lib.hid (show code3 n l = if cc = 0 then (if hs.length ≤ 400 then 0 else 4) else cc by
          rw [code3, ← HK2.out, ← HF1.out, HC.out, cB, HH.out]
          by_cases h : k2 = 0
          · rw [if_pos h, if_pos h]
            cases F1.all (hrSpec n)
            · simp
            · simp [newHs]
          · rw [if_neg h, if_neg h, if_neg h])
         rcases Nat.eq_zero_or_pos cc with z0 | z0
         case inr =>
          have z1 : ((cc : Int) == 0) = false := beq_false_of_ne (by omega)
          have z3 : ((cc : Int) != 0) = true := bne_iff_ne.2 (by omega)
          have hc3 : code3 n l = cc := by rw [C3.out, if_neg (by omega)]
          have E := Lib.hid (show reCode n l = cc by rw [← code4_eq n l Hy.out, code4, hc3, if_neg (by omega)])
          clear hc3
          have zn := Lib.hid (show cc ≠ 0 by omega)
          clear z0
          obtain ⟨wz, hw, hz, hx⟩ : ∃ wz, wz = (wr.alloc (.cells #[] 112)).setCells gR 0 [.int .i64 0, .slice none 0 0, .slice none 0 0, .slice none 0 0, .int .i64 0, .slice none 0 0, .int .i64 0, .slice none 0 0, .int .i64 0, .int .i64 0, .string ⟨#[]⟩, .int .i64 0, .string ⟨#[]⟩] ∧ Blk wz gR 59 #[.int .i64 0, .slice none 0 0, .slice none 0 0, .slice none 0 0, .int .i64 0, .slice none 0 0, .int .i64 0, .slice none 0 0, .int .i64 0, .int .i64 0, .string ⟨#[]⟩, .int .i64 0, .string ⟨#[]⟩] ∧ Ext w wz := ⟨_, rfl, (KB.alloc _).put 0 [.int .i64 0, .slice none 0 0, .slice none 0 0, .slice none 0 0, .int .i64 0, .slice none 0 0, .int .i64 0, .slice none 0 0, .int .i64 0, .int .i64 0, .string ⟨#[]⟩, .int .i64 0, .string ⟨#[]⟩] #[.int .i64 0, .slice none 0 0, .slice none 0 0, .slice none 0 0, .int .i64 0, .slice none 0 0, .int .i64 0, .slice none 0 0, .int .i64 0, .int .i64 0, .string ⟨#[]⟩, .int .i64 0, .string ⟨#[]⟩] (by simp) rfl, ext_setCells (W := w) (g := gR) (by have := HgR.out; omega) [.int .i64 0, .slice none 0 0, .slice none 0 0, .slice none 0 0, .int .i64 0, .slice none 0 0, .int .i64 0, .slice none 0 0, .int .i64 0, .int .i64 0, .string ⟨#[]⟩, .int .i64 0, .string ⟨#[]⟩] 0 _ (he.new _)⟩
          have T4 := Lib.hid ((KB.alloc (.cells #[] 112)).there 0 13 (by simp))
          have OE := Lib.hid (show wz.ownsRow w.heap.size 112 3 (.slice (some ⟨wr.heap.size, 0, none⟩) 0 0) 0 [] by
           have hf := Frm.setCells (Frm.refl (fun b => b = gR) (wr.alloc (.cells #[] 112))) (g := gR) (fun _ => rfl) [.int .i64 0, .slice none 0 0, .slice none 0 0, .slice none 0 0, .int .i64 0, .slice none 0 0, .int .i64 0, .slice none 0 0, .int .i64 0, .int .i64 0, .string ⟨#[]⟩, .int .i64 0, .string ⟨#[]⟩] 0
           have h1 := ownsRow_empty wr 112 3
           have h2 := hf.own h1 (fun y hy => own_ne h1 (KB.alloc _) (by decide) y hy)
           rw [hw]
           exact ownsRow_base h2 he.size)
          have HW := Lib.hid hw; have Z4 := Lib.hid hz; have X4 := Lib.hid hx
          clear hw hz hx
          go_upto_region 51 with fail
          rename_i KK2 aa2
          revert aa2
          go_light
          intro aa2
          have AA := Lib.hid aa2
          clear aa2
          go_wp2_with (refine wpList_store_list rfl 59 _ _ rfl rfl gR 0 [.int .i64 0, .slice none 0 0, .slice none 0 0, .slice none 0 0, .int .i64 0, .slice none 0 0, .int .i64 0, .slice none 0 0, .int .i64 0, .int .i64 0, .string ⟨#[]⟩, .int .i64 0, .string ⟨#[]⟩] rfl rfl T4.out (by kernel_rfl) (by rfl) ?_; rw [← HW.out])
          refine AA.out _ _ (wp_ret ?_)
          refine ret_row_two rfl rfl Z4.out Tryz.underlying59 rfl (by kernel_rfl) rfl ?_
          exact ReAns.bad E.out (by exact zn.out) rfl OE.out X4.out
         have z1 : ((cc : Int) == 0) = true := beq_iff_eq.2 (by omega)
         have z3 : ((cc : Int) != 0) = false := by rw [bne, z1]; rfl
         have C3Z := Lib.hid (show code3 n l = if hs.length ≤ 400 then 0 else 4 by rw [C3.out, if_pos z0])
         clear z0
         rcases Nat.lt_or_ge 400 hs.length with s4 | s4
         case inl =>
          have s5 : decide ((400 : Int) < (hs.length : Int)) = true := decide_eq_true (by omega)
          have hc3 : code3 n l = 4 := by rw [C3Z.out, if_neg (by omega)]
          have E := Lib.hid (show reCode n l = 4 by rw [← code4_eq n l Hy.out, code4, hc3, if_neg (by decide)])
          clear hc3
          obtain ⟨rv, fv⟩ := KV.rules
          obtain ⟨wz, hw, hz, hx⟩ : ∃ wz, wz = (wr.alloc (.cells #[] 112)).setCells gR 0 [.int .i64 0, .slice none 0 0, .slice none 0 0, .slice none 0 0, .int .i64 0, .slice none 0 0, .int .i64 0, .slice none 0 0, .int .i64 0, .int .i64 0, .string ⟨#[]⟩, .int .i64 0, .string ⟨#[]⟩] ∧ Blk wz gR 59 #[.int .i64 0, .slice none 0 0, .slice none 0 0, .slice none 0 0, .int .i64 0, .slice none 0 0, .int .i64 0, .slice none 0 0, .int .i64 0, .int .i64 0, .string ⟨#[]⟩, .int .i64 0, .string ⟨#[]⟩] ∧ Ext w wz := ⟨_, rfl, (KB.alloc _).put 0 [.int .i64 0, .slice none 0 0, .slice none 0 0, .slice none 0 0, .int .i64 0, .slice none 0 0, .int .i64 0, .slice none 0 0, .int .i64 0, .int .i64 0, .string ⟨#[]⟩, .int .i64 0, .string ⟨#[]⟩] #[.int .i64 0, .slice none 0 0, .slice none 0 0, .slice none 0 0, .int .i64 0, .slice none 0 0, .int .i64 0, .slice none 0 0, .int .i64 0, .int .i64 0, .string ⟨#[]⟩, .int .i64 0, .string ⟨#[]⟩] (by simp) rfl, ext_setCells (W := w) (g := gR) (by have := HgR.out; omega) [.int .i64 0, .slice none 0 0, .slice none 0 0, .slice none 0 0, .int .i64 0, .slice none 0 0, .int .i64 0, .slice none 0 0, .int .i64 0, .int .i64 0, .string ⟨#[]⟩, .int .i64 0, .string ⟨#[]⟩] 0 _ (he.new _)⟩
          have T4 := Lib.hid ((KB.alloc (.cells #[] 112)).there 0 13 (by simp))
          have OE := Lib.hid (show wz.ownsRow w.heap.size 112 3 (.slice (some ⟨wr.heap.size, 0, none⟩) 0 0) 0 [] by
           have hf := Frm.setCells (Frm.refl (fun b => b = gR) (wr.alloc (.cells #[] 112))) (g := gR) (fun _ => rfl) [.int .i64 0, .slice none 0 0, .slice none 0 0, .slice none 0 0, .int .i64 0, .slice none 0 0, .int .i64 0, .slice none 0 0, .int .i64 0, .int .i64 0, .string ⟨#[]⟩, .int .i64 0, .string ⟨#[]⟩] 0
           have h1 := ownsRow_empty wr 112 3
           have h2 := hf.own h1 (fun y hy => own_ne h1 (KB.alloc _) (by decide) y hy)
           rw [hw]
           exact ownsRow_base h2 he.size)
          have HW := Lib.hid hw; have Z4 := Lib.hid hz; have X4 := Lib.hid hx
          clear hw hz hx
          go_upto_region 51 with fail
          rename_i KK2 aa2
          revert aa2
          go_light
          intro aa2
          have AA := Lib.hid aa2
          clear aa2
          go_wp2_with (refine wpList_store_list rfl 59 _ _ rfl rfl gR 0 [.int .i64 0, .slice none 0 0, .slice none 0 0, .slice none 0 0, .int .i64 0, .slice none 0 0, .int .i64 0, .slice none 0 0, .int .i64 0, .int .i64 0, .string ⟨#[]⟩, .int .i64 0, .string ⟨#[]⟩] rfl rfl T4.out (by kernel_rfl) (by rfl) ?_; rw [← HW.out])
          refine AA.out _ _ (wp_ret ?_)
          refine ret_row_two rfl rfl Z4.out Tryz.underlying59 rfl (by kernel_rfl) rfl ?_
          exact ReAns.bad E.out (by decide) rfl OE.out X4.out
         have s5 : decide ((400 : Int) < (hs.length : Int)) = false := decide_eq_false (by omega)
         have Z3 := Lib.hid (show code3 n l = 0 by rw [C3Z.out, if_pos s4])
         obtain ⟨ee, er, eh, lok, rok, hh4, hz1, hz2⟩ := re_zero Z3.out
         rw [← HE.out] at ee lok
         rw [← HR2.out] at er rok
         rw [← HH.out] at eh
         rw [← eh] at hz1 hz2
         have E4 := Lib.hid (show ∀ b, brkParts (reB0 n l) = b → reCode n l = if b then 0 else 4 from fun b hb => by rw [← code4_eq n l Hy.out, code4, Z3.out, if_pos rfl, hb])
         have EE := Lib.hid ee; have ER := Lib.hid er; have EH := Lib.hid eh; have LOK := Lib.hid lok; have ROK := Lib.hid rok
         obtain ⟨lh, hlh⟩ : ∃ lh, lh = lastH hs := ⟨_, rfl⟩
         rw [← hlh] at hz1 hz2
         have HLH := Lib.hid hlh
         have CLa := l12Last_any [.int .i64 n, .slice VE es.length cE, .slice VR rs.length cR, .slice VH hs.length cH, .int .i64 0, .slice none 0 0, .int .i64 0, .slice none 0 0, .int .i64 (h0).number, .int .i64 (h0).size, .string (h0).root, .int .i64 (h0).taken, .string (h0).takenRoot] VH cH hs wr rfl rfl (slf_at KO.out).reads hs0 (by omega)
         rw [← hlh] at CLa
         have CL := Lib.hid CLa
         clear CLa
         have RX := Lib.hid (Blk.range KV)
         have l5 := (logOk_all lok).1
         have r5 := (recsOk_all rok).1
         clear ee er eh lok rok hh4 hlh
         obtain ⟨rv, fv⟩ := KV.rules
         skip -- XW
         go_upto_region 42 with fail
         skip -- XX
         go_wp2_with (refine wpList_load_mid rfl 59 _ rfl gV 0 rfl [.int .i64 n, .slice VE es.length cE, .slice VR rs.length cR, .slice VH hs.length cH, .int .i64 0, .slice none 0 0, .int .i64 0, .slice none 0 0, .int .i64 (h0).number, .int .i64 (h0).size, .string (h0).root, .int .i64 (h0).taken, .string (h0).takenRoot] _ RX.out Tryz.underlying59 rfl (by kernel_rfl) ?_)
         refine CL.out.mono ?_
         rintro e wb ⟨rfl, h1⟩
         replace KV := KV.ext h1; replace KB := KB.ext h1; replace RL := Lib.hid (RowsIn.ext RL.out h1); replace he := he.next h1
         clear h1 CL RX rv fv KO
         go_upto_region 43 with fail
         have KL := Blk.new wb 55 #[.int .i64 lh.number, .int .i64 lh.size, .string lh.root, .int .i64 lh.taken, .string lh.takenRoot]
         have hx := Ext.new (Below.refl wb.heap.size wb) (.cells #[.int .i64 lh.number, .int .i64 lh.size, .string lh.root, .int .i64 lh.taken, .string lh.takenRoot] 55)
         have hVL : gV < wb.heap.size := KV.lt
         replace KV := KV.ext hx; replace KB := KB.ext hx; replace RL := Lib.hid (RowsIn.ext RL.out hx); replace he := he.next hx
         obtain ⟨gL, hgL⟩ : ∃ gL, gL = wb.heap.size := ⟨_, rfl⟩
         rw [← hgL] at KL hVL
         rw [← hgL]
         clear hgL hx
         obtain ⟨w20, hw20⟩ : ∃ w20, w20 = wb.alloc (.cells #[.int .i64 lh.number, .int .i64 lh.size, .string lh.root, .int .i64 lh.taken, .string lh.takenRoot] 55) := ⟨_, rfl⟩
         rw [← hw20] at KL KV KB RL he
         rw [← hw20]
         clear hw20
         obtain ⟨rv, fv⟩ := KV.rules
         obtain ⟨rl, fl⟩ := KL.rules
         by_cases t1 : (es.length : Int) < lh.size
         case pos =>
          have t2 : decide ((es.length : Int) < lh.size) = true := decide_eq_true t1
          have E := Lib.hid (show reCode n l = 4 from E4.out false (by
           cases hb : brkParts (reB0 n l)
           · rfl
           · have := (parts_last hb).1
             rw [← EH.out, ← HLH.out, ← EE.out] at this
             omega))
          obtain ⟨wz, hw, hz, hx⟩ : ∃ wz, wz = (w20.alloc (.cells #[] 112)).setCells gR 0 [.int .i64 0, .slice none 0 0, .slice none 0 0, .slice none 0 0, .int .i64 0, .slice none 0 0, .int .i64 0, .slice none 0 0, .int .i64 0, .int .i64 0, .string ⟨#[]⟩, .int .i64 0, .string ⟨#[]⟩] ∧ Blk wz gR 59 #[.int .i64 0, .slice none 0 0, .slice none 0 0, .slice none 0 0, .int .i64 0, .slice none 0 0, .int .i64 0, .slice none 0 0, .int .i64 0, .int .i64 0, .string ⟨#[]⟩, .int .i64 0, .string ⟨#[]⟩] ∧ Ext w wz := ⟨_, rfl, (KB.alloc _).put 0 [.int .i64 0, .slice none 0 0, .slice none 0 0, .slice none 0 0, .int .i64 0, .slice none 0 0, .int .i64 0, .slice none 0 0, .int .i64 0, .int .i64 0, .string ⟨#[]⟩, .int .i64 0, .string ⟨#[]⟩] #[.int .i64 0, .slice none 0 0, .slice none 0 0, .slice none 0 0, .int .i64 0, .slice none 0 0, .int .i64 0, .slice none 0 0, .int .i64 0, .int .i64 0, .string ⟨#[]⟩, .int .i64 0, .string ⟨#[]⟩] (by simp) rfl, ext_setCells (W := w) (g := gR) (by have := HgR.out; omega) [.int .i64 0, .slice none 0 0, .slice none 0 0, .slice none 0 0, .int .i64 0, .slice none 0 0, .int .i64 0, .slice none 0 0, .int .i64 0, .int .i64 0, .string ⟨#[]⟩, .int .i64 0, .string ⟨#[]⟩] 0 _ (he.new _)⟩
          have T4 := Lib.hid ((KB.alloc (.cells #[] 112)).there 0 13 (by simp))
          have OE := Lib.hid (show wz.ownsRow w.heap.size 112 3 (.slice (some ⟨w20.heap.size, 0, none⟩) 0 0) 0 [] by
           have hf := Frm.setCells (Frm.refl (fun b => b = gR) (w20.alloc (.cells #[] 112))) (g := gR) (fun _ => rfl) [.int .i64 0, .slice none 0 0, .slice none 0 0, .slice none 0 0, .int .i64 0, .slice none 0 0, .int .i64 0, .slice none 0 0, .int .i64 0, .int .i64 0, .string ⟨#[]⟩, .int .i64 0, .string ⟨#[]⟩] 0
           have h1 := ownsRow_empty w20 112 3
           have h2 := hf.own h1 (fun y hy => own_ne h1 (KB.alloc _) (by decide) y hy)
           rw [hw]
           exact ownsRow_base h2 he.size)
          have HW := Lib.hid hw; have Z4 := Lib.hid hz; have X4 := Lib.hid hx
          clear hw hz hx
          go_upto_region 51 with fail
          rename_i KK2 aa2
          revert aa2
          go_light
          intro aa2
          have AA := Lib.hid aa2
          clear aa2
          go_wp2_with (refine wpList_store_list rfl 59 _ _ rfl rfl gR 0 [.int .i64 0, .slice none 0 0, .slice none 0 0, .slice none 0 0, .int .i64 0, .slice none 0 0, .int .i64 0, .slice none 0 0, .int .i64 0, .int .i64 0, .string ⟨#[]⟩, .int .i64 0, .string ⟨#[]⟩] rfl rfl T4.out (by kernel_rfl) (by rfl) ?_; rw [← HW.out])
          refine AA.out _ _ (wp_ret ?_)
          refine ret_row_two rfl rfl Z4.out Tryz.underlying59 rfl (by kernel_rfl) rfl ?_
          exact ReAns.bad E.out (by decide) rfl OE.out X4.out
         have t2 : decide ((es.length : Int) < lh.size) = false := decide_eq_false t1
         by_cases t3 : (rs.length : Int) < lh.taken
         case pos =>
          have t4 : decide ((rs.length : Int) < lh.taken) = true := decide_eq_true t3
          have E := Lib.hid (show reCode n l = 4 from E4.out false (by
           cases hb : brkParts (reB0 n l)
           · rfl
           · have := (parts_last hb).2
             rw [← EH.out, ← HLH.out, ← ER.out] at this
             omega))
          obtain ⟨wz, hw, hz, hx⟩ : ∃ wz, wz = (w20.alloc (.cells #[] 112)).setCells gR 0 [.int .i64 0, .slice none 0 0, .slice none 0 0, .slice none 0 0, .int .i64 0, .slice none 0 0, .int .i64 0, .slice none 0 0, .int .i64 0, .int .i64 0, .string ⟨#[]⟩, .int .i64 0, .string ⟨#[]⟩] ∧ Blk wz gR 59 #[.int .i64 0, .slice none 0 0, .slice none 0 0, .slice none 0 0, .int .i64 0, .slice none 0 0, .int .i64 0, .slice none 0 0, .int .i64 0, .int .i64 0, .string ⟨#[]⟩, .int .i64 0, .string ⟨#[]⟩] ∧ Ext w wz := ⟨_, rfl, (KB.alloc _).put 0 [.int .i64 0, .slice none 0 0, .slice none 0 0, .slice none 0 0, .int .i64 0, .slice none 0 0, .int .i64 0, .slice none 0 0, .int .i64 0, .int .i64 0, .string ⟨#[]⟩, .int .i64 0, .string ⟨#[]⟩] #[.int .i64 0, .slice none 0 0, .slice none 0 0, .slice none 0 0, .int .i64 0, .slice none 0 0, .int .i64 0, .slice none 0 0, .int .i64 0, .int .i64 0, .string ⟨#[]⟩, .int .i64 0, .string ⟨#[]⟩] (by simp) rfl, ext_setCells (W := w) (g := gR) (by have := HgR.out; omega) [.int .i64 0, .slice none 0 0, .slice none 0 0, .slice none 0 0, .int .i64 0, .slice none 0 0, .int .i64 0, .slice none 0 0, .int .i64 0, .int .i64 0, .string ⟨#[]⟩, .int .i64 0, .string ⟨#[]⟩] 0 _ (he.new _)⟩
          have T4 := Lib.hid ((KB.alloc (.cells #[] 112)).there 0 13 (by simp))
          have OE := Lib.hid (show wz.ownsRow w.heap.size 112 3 (.slice (some ⟨w20.heap.size, 0, none⟩) 0 0) 0 [] by
           have hf := Frm.setCells (Frm.refl (fun b => b = gR) (w20.alloc (.cells #[] 112))) (g := gR) (fun _ => rfl) [.int .i64 0, .slice none 0 0, .slice none 0 0, .slice none 0 0, .int .i64 0, .slice none 0 0, .int .i64 0, .slice none 0 0, .int .i64 0, .int .i64 0, .string ⟨#[]⟩, .int .i64 0, .string ⟨#[]⟩] 0
           have h1 := ownsRow_empty w20 112 3
           have h2 := hf.own h1 (fun y hy => own_ne h1 (KB.alloc _) (by decide) y hy)
           rw [hw]
           exact ownsRow_base h2 he.size)
          have HW := Lib.hid hw; have Z4 := Lib.hid hz; have X4 := Lib.hid hx
          clear hw hz hx
          go_upto_region 51 with fail
          rename_i KK2 aa2
          revert aa2
          go_light
          intro aa2
          have AA := Lib.hid aa2
          clear aa2
          go_wp2_with (refine wpList_store_list rfl 59 _ _ rfl rfl gR 0 [.int .i64 0, .slice none 0 0, .slice none 0 0, .slice none 0 0, .int .i64 0, .slice none 0 0, .int .i64 0, .slice none 0 0, .int .i64 0, .int .i64 0, .string ⟨#[]⟩, .int .i64 0, .string ⟨#[]⟩] rfl rfl T4.out (by kernel_rfl) (by rfl) ?_; rw [← HW.out])
          refine AA.out _ _ (wp_ret ?_)
          refine ret_row_two rfl rfl Z4.out Tryz.underlying59 rfl (by kernel_rfl) rfl ?_
          exact ReAns.bad E.out (by decide) rfl OE.out X4.out
         have t4 : decide ((rs.length : Int) < lh.taken) = false := decide_eq_false t3
         clear rv fv rl fl
         obtain ⟨m1, hm1⟩ : ∃ m1 : Nat, lh.size = (m1 : Int) := ⟨lh.size.toNat, by omega⟩
         obtain ⟨m2, hm2⟩ : ∃ m2 : Nat, lh.taken = (m2 : Int) := ⟨lh.taken.toNat, by omega⟩
         have me : m1 ≤ es.length := by omega
         have mr : m2 ≤ rs.length := by omega
         have SE := slf_at (RL.out.tail.tail.tail.tail.tail.tail.head)
         have SR := slf_at (RL.out.tail.tail.tail.tail.tail.tail.tail.head)
         have ce := SE.le; have cr := SR.le
         have SLE := fun W => run_pre (P := Tryz.prog) (t := 49) VE es.length cE m1 5 Tryz.underlying49 (fun W => by kernel_rfl) (by omega) (x := lh.size) hm1 W
         have SLR := fun W => run_pre (P := Tryz.prog) (t := 52) VR rs.length cR m2 3 Tryz.underlying52 (fun W => by kernel_rfl) (by omega) (x := lh.taken) hm2 W
         have HM1 := Lib.hid hm1; have HM2 := Lib.hid hm2; have ME := Lib.hid me; have MR := Lib.hid mr
         have T1 : (es.take m1).length = m1 := by rw [List.length_take]; omega
         have T2 : (rs.take m2).length = m2 := by rw [List.length_take]; omega
         obtain ⟨L1, hL1⟩ : ∃ L1, L1 = (es.take m1).map (leafH n) := ⟨_, rfl⟩
         obtain ⟨L2, hL2⟩ : ∃ L2, L2 = (rs.take m2).map (recH n) := ⟨_, rfl⟩
         have TL1 : L1.length = m1 := by rw [hL1, List.length_map, T1]
         have TL2 : L2.length = m2 := by rw [hL2, List.length_map, T2]
         have W1 := Lib.hid (show ∀ x ∈ L1, WdT n x from fun x hx => by
          rw [hL1] at hx
          obtain ⟨y, hy, rfl⟩ := List.mem_map.1 hx
          exact leavesH_size B1.out LOK.out _ (List.mem_map.2 ⟨y, List.mem_of_mem_take hy, rfl⟩))
         have W2 := Lib.hid (show ∀ x ∈ L2, WdT n x from fun x hx => by
          rw [hL2] at hx
          obtain ⟨y, hy, rfl⟩ := List.mem_map.1 hx
          exact takenH_size B1.out ROK.out _ (List.mem_map.2 ⟨y, List.mem_of_mem_take hy, rfl⟩))
         have C45 := Lib.hid (fun (W : World) (s : SlF AnyB EntryD.cells 5 W VE es cE) => show Calls Tryz.prog 72 #[.int .i64 n, .slice VE m1 cE] W (fun e w' => ∃ v, e = .returned v ∧ RowT W.heap.size w' v L1 ∧ Ext W w') by
          have := l09Hashes_any n VE cE (es.take m1) W (slf_take EntryD.cells_length s (by omega)) (fun d hd => OKE.out d (List.mem_of_mem_take hd)) (by omega)
          rw [T1] at this
          refine this.mono ?_
          rintro e w' ⟨v, rfl, ho, hx⟩
          exact ⟨v, rfl, RowT.of ho TL1.symm (by rw [hL1]), hx⟩)
         have C46 := Lib.hid (fun (W : World) (s : SlF AnyB ReceiptD.cells 3 W VR rs cR) => show Calls Tryz.prog 73 #[.int .i64 n, .slice VR m2 cR] W (fun e w' => ∃ v, e = .returned v ∧ RowT W.heap.size w' v L2 ∧ Ext W w') by
          have := l12Taken_any n VR cR (rs.take m2) W (slf_take ReceiptD.cells_length s (by omega)) (fun d hd => OKR.out d (List.mem_of_mem_take hd)) (by omega)
          rw [T2] at this
          refine this.mono ?_
          rintro e w' ⟨v, rfl, ho, hx⟩
          exact ⟨v, rfl, RowT.of ho TL2.symm (by rw [hL2]), hx⟩)
         have R45 := Lib.hid (fun (W : World) (A' : Option Addr) (c' : Nat) (K : Nat) (r : RowT K W (.slice A' m1 c') L1) => show Calls Tryz.prog 71 #[.int .i64 n, .slice A' m1 c'] W (fun e w' => ∃ v, e = .returned (.tuple #[.agg #[.int .i64 (m1 : Int), v], .bool true]) ∧ RowT W.heap.size w' v (peaksOf (ndB n) L1).reverse ∧ Ext W w') by
          have := RangeOf_good n B1.out A' c' L1 W (by have := r; rw [← TL1] at this; exact Reads.of_own (c := c') this) W1.out (by omega)
          rwa [TL1] at this)
         have R46 := Lib.hid (fun (W : World) (A' : Option Addr) (c' : Nat) (K : Nat) (r : RowT K W (.slice A' m2 c') L2) => show Calls Tryz.prog 71 #[.int .i64 n, .slice A' m2 c'] W (fun e w' => ∃ v, e = .returned (.tuple #[.agg #[.int .i64 (m2 : Int), v], .bool true]) ∧ RowT W.heap.size w' v (peaksOf (ndB n) L2).reverse ∧ Ext W w') by
          have := RangeOf_good n B1.out A' c' L2 W (by have := r; rw [← TL2] at this; exact Reads.of_own (c := c') this) W2.out (by omega)
          rwa [TL2] at this)
         have P1 := Lib.hid (pk_len (ndB n) L1 (by omega)); have P2 := Lib.hid (pk_len (ndB n) L2 (by omega))
         have HS := Lib.hid (show (reB n l).sealed = ⟨⟨(m1 : Int), (peaksOf (ndB n) L1).reverse⟩, ⟨(m2 : Int), (peaksOf (ndB n) L2).reverse⟩, lh⟩ by
          show sealOfH n (leavesH n (reB0 n l).log.entries) (takenH n (reB0 n l).receipts) (lastH (reB0 n l).heads) = _
          rw [← EE.out, ← ER.out, ← EH.out, ← HLH.out, sealOfH, hm1, hm2]
          show (⟨rangeOf n ((leavesH n es).take m1), rangeOf n ((takenH n rs).take m2), lh⟩ : SealD) = _
          rw [range_take n es m1 me, range_takeR n rs m2 mr, ← hL1, ← hL2])
         obtain ⟨k3, hk3⟩ : ∃ k3, k3 = (peaksOf (ndB n) L1).reverse := ⟨_, rfl⟩
         obtain ⟨k4, hk4⟩ : ∃ k4, k4 = (peaksOf (ndB n) L2).reverse := ⟨_, rfl⟩
         rw [← hk3] at R45 HS P1
         rw [← hk4] at R46 HS P2
         have TT := Lib.hid (And.intro TL1 TL2)
         clear hm1 hm2 me mr SE SR T1 T2 hL1 hL2 hk3 hk4 TL1 TL2 W1 W2 hz1 hz2 l5 r5
         obtain ⟨rv, fv⟩ := KV.rules
         obtain ⟨rl, fl⟩ := KL.rules
         go_wp2_with fail
         refine (C45.out _ (slf_at (RL.out.tail.tail.tail.tail.tail.tail.head))).mono ?_
         rintro e w21 ⟨v, rfl, hrow, h1⟩
         replace KV := KV.ext h1; replace KB := KB.ext h1; replace KL := KL.ext h1; replace RL := Lib.hid (RowsIn.ext RL.out h1); replace he := he.next h1
         clear rv fv rl fl
         obtain ⟨PX, cx, rfl, r9⟩ := RowT.cells hrow
         clear r9
         rw [TT.out.1] at hrow
         rw [TT.out.1]
         clear h1
         have HR := Lib.hid hrow
         clear hrow
         obtain ⟨rv, fv⟩ := KV.rules
         obtain ⟨rl, fl⟩ := KL.rules
         have hws := he.size
         go_wp2_with fail
         refine (R45.out _ PX cx _ HR.out).mono ?_
         rintro e w22 ⟨v, rfl, hrow, h1⟩
         replace KV := KV.ext h1; replace KB := KB.ext h1; replace KL := KL.ext h1
         replace RL := Lib.hid (RowsIn.ext RL.out h1); replace he := he.next h1
         clear rv fv rl fl HR h1
         have hrow2 := RowT.ofBase hrow hws
         obtain ⟨PA, pa, rfl, r9⟩ := RowT.cells hrow2
         clear r9
         replace RL := Lib.hid (RowsIn.cons hrow2 RL.out)
         have KLH := Lib.hid KL
         clear hrow hrow2 hws KL
         obtain ⟨w23, hw, KV2, KB2, RL2, he2⟩ : ∃ w23, w23 = w22.setCells gV 4 [.int .i64 (m1 : Int), .slice PA k3.length pa] ∧ Blk w23 gV 59 #[.int .i64 n, .slice VE es.length cE, .slice VR rs.length cR, .slice VH hs.length cH, .int .i64 (m1 : Int), .slice PA k3.length pa, .int .i64 0, .slice none 0 0, .int .i64 (h0).number, .int .i64 (h0).size, .string (h0).root, .int .i64 (h0).taken, .string (h0).takenRoot] ∧ Blk w23 gR 59 #[.int .i64 0, .slice none 0 0, .slice none 0 0, .slice none 0 0, .int .i64 0, .slice none 0 0, .int .i64 0, .slice none 0 0, .int .i64 0, .int .i64 0, .string ⟨#[]⟩, .int .i64 0, .string ⟨#[]⟩] ∧ RowsIn w.heap.size w23 [(9, 1, .slice PA k3.length pa, k3.length, k3.flatMap sone), (55, 5, .slice VH hs.length cH, hs.length, hs.flatMap HeadD.cells), (112, 3, .slice V dm.length cv, dm.length, dm.flatMap WriteD.cells), (22, 1, .slice (some ⟨bp, 0, none⟩) 3 cp, 3, [.slice A0 F0.length a0, .slice A1 F1.length a1, .slice A2 F2.length a2]), (9, 1, .slice A0 F0.length a0, F0.length, F0.flatMap sone), (9, 1, .slice A1 F1.length a1, F1.length, F1.flatMap sone), (9, 1, .slice A2 F2.length a2, F2.length, F2.flatMap sone), (46, 5, .slice VE es.length cE, es.length, es.flatMap EntryD.cells), (77, 3, .slice VR rs.length cR, rs.length, rs.flatMap ReceiptD.cells)] ∧ Ext w w23 := by
          have hf := Frm.setCells (Frm.refl (fun b => b = gV) w22) (g := gV) (fun _ => rfl) [.int .i64 (m1 : Int), .slice PA k3.length pa] 4
          exact ⟨_, rfl, KV.put 4 [.int .i64 (m1 : Int), .slice PA k3.length pa] #[.int .i64 n, .slice VE es.length cE, .slice VR rs.length cR, .slice VH hs.length cH, .int .i64 (m1 : Int), .slice PA k3.length pa, .int .i64 0, .slice none 0 0, .int .i64 (h0).number, .int .i64 (h0).size, .string (h0).root, .int .i64 (h0).taken, .string (h0).takenRoot] (by simp) rfl, hf.blk KB (by omega), RowsIn.put RL.out KV (by simp) [.int .i64 (m1 : Int), .slice PA k3.length pa] 4, hf.toExt he (fun y hy e => by have := hRV; have := HgR.out; omega)⟩
         have HW := Lib.hid hw
         have T4 := Lib.hid (KV.there 4 2 (by simp))
         obtain ⟨rv, fv⟩ := KV.rules
         clear hw
         go_upto_region 46 with (refine wpList_store_list rfl 54 _ _ rfl rfl gV 4 [.int .i64 (m1 : Int), .slice PA k3.length pa] rfl rfl T4.out (by kernel_rfl) (by rfl) ?_; rw [← HW.out])
         have KL := (Frm.setCells (Frm.refl (fun b => b = gV) w22) (g := gV) (fun _ => rfl) [.int .i64 (m1 : Int), .slice PA k3.length pa] 4).blk KLH.out (by omega)
         rw [show w22.setCells gV 4 [.int .i64 (m1 : Int), .slice PA k3.length pa] = w23 from HW.out.symm] at KL
         clear HW T4 rv fv KV KB RL he KLH
         have KV := KV2; have KB := KB2; have RL := Lib.hid RL2; have he := he2
         clear KV2 KB2 RL2 he2
         obtain ⟨rv, fv⟩ := KV.rules
         obtain ⟨rl, fl⟩ := KL.rules
         go_wp2_with fail
         refine (C46.out _ (slf_at (RL.out.tail.tail.tail.tail.tail.tail.tail.tail.head))).mono ?_
         rintro e w24 ⟨v, rfl, hrow, h1⟩
         replace KV := KV.ext h1; replace KB := KB.ext h1; replace KL := KL.ext h1; replace RL := Lib.hid (RowsIn.ext RL.out h1); replace he := he.next h1
         clear rv fv rl fl
         obtain ⟨PX, cx, rfl, r9⟩ := RowT.cells hrow
         clear r9
         rw [TT.out.2] at hrow
         rw [TT.out.2]
         clear h1
         have HR := Lib.hid hrow
         clear hrow
         obtain ⟨rv, fv⟩ := KV.rules
         obtain ⟨rl, fl⟩ := KL.rules
         have hws := he.size
         go_wp2_with fail
         refine (R46.out _ PX cx _ HR.out).mono ?_
         rintro e w25 ⟨v, rfl, hrow, h1⟩
         replace KV := KV.ext h1; replace KB := KB.ext h1; replace KL := KL.ext h1
         have APH := Lib.hid (show ∀ x, (Value.slice PA k3.length pa).ownBlock = some x → v.ownBlock ≠ some x from fun x hx hx2 => by have h3 := ((RL.out.head).lt x hx).2; have h4 := (hrow.lt x hx2).1; omega)
         replace RL := Lib.hid (RowsIn.ext RL.out h1); replace he := he.next h1
         clear rv fv rl fl HR h1
         have hrow2 := RowT.ofBase hrow hws
         obtain ⟨QA, qa, rfl, r9⟩ := RowT.cells hrow2
         clear r9
         replace RL := Lib.hid (RowsIn.cons hrow2 RL.out)
         have KLH := Lib.hid KL
         clear hrow hrow2 hws KL
         obtain ⟨w26, hw, KV2, KB2, RL2, he2⟩ : ∃ w26, w26 = w25.setCells gV 6 [.int .i64 (m2 : Int), .slice QA k4.length qa] ∧ Blk w26 gV 59 #[.int .i64 n, .slice VE es.length cE, .slice VR rs.length cR, .slice VH hs.length cH, .int .i64 (m1 : Int), .slice PA k3.length pa, .int .i64 (m2 : Int), .slice QA k4.length qa, .int .i64 (h0).number, .int .i64 (h0).size, .string (h0).root, .int .i64 (h0).taken, .string (h0).takenRoot] ∧ Blk w26 gR 59 #[.int .i64 0, .slice none 0 0, .slice none 0 0, .slice none 0 0, .int .i64 0, .slice none 0 0, .int .i64 0, .slice none 0 0, .int .i64 0, .int .i64 0, .string ⟨#[]⟩, .int .i64 0, .string ⟨#[]⟩] ∧ RowsIn w.heap.size w26 [(9, 1, .slice QA k4.length qa, k4.length, k4.flatMap sone), (9, 1, .slice PA k3.length pa, k3.length, k3.flatMap sone), (55, 5, .slice VH hs.length cH, hs.length, hs.flatMap HeadD.cells), (112, 3, .slice V dm.length cv, dm.length, dm.flatMap WriteD.cells), (22, 1, .slice (some ⟨bp, 0, none⟩) 3 cp, 3, [.slice A0 F0.length a0, .slice A1 F1.length a1, .slice A2 F2.length a2]), (9, 1, .slice A0 F0.length a0, F0.length, F0.flatMap sone), (9, 1, .slice A1 F1.length a1, F1.length, F1.flatMap sone), (9, 1, .slice A2 F2.length a2, F2.length, F2.flatMap sone), (46, 5, .slice VE es.length cE, es.length, es.flatMap EntryD.cells), (77, 3, .slice VR rs.length cR, rs.length, rs.flatMap ReceiptD.cells)] ∧ Ext w w26 := by
          have hf := Frm.setCells (Frm.refl (fun b => b = gV) w25) (g := gV) (fun _ => rfl) [.int .i64 (m2 : Int), .slice QA k4.length qa] 6
          exact ⟨_, rfl, KV.put 6 [.int .i64 (m2 : Int), .slice QA k4.length qa] #[.int .i64 n, .slice VE es.length cE, .slice VR rs.length cR, .slice VH hs.length cH, .int .i64 (m1 : Int), .slice PA k3.length pa, .int .i64 (m2 : Int), .slice QA k4.length qa, .int .i64 (h0).number, .int .i64 (h0).size, .string (h0).root, .int .i64 (h0).taken, .string (h0).takenRoot] (by simp) rfl, hf.blk KB (by omega), RowsIn.put RL.out KV (by simp) [.int .i64 (m2 : Int), .slice QA k4.length qa] 6, hf.toExt he (fun y hy e => by have := hRV; have := HgR.out; omega)⟩
         have HW := Lib.hid hw
         have T4 := Lib.hid (KV.there 6 2 (by simp))
         obtain ⟨rv, fv⟩ := KV.rules
         clear hw
         go_upto_region 47 with (refine wpList_store_list rfl 54 _ _ rfl rfl gV 6 [.int .i64 (m2 : Int), .slice QA k4.length qa] rfl rfl T4.out (by kernel_rfl) (by rfl) ?_; rw [← HW.out])
         have KL := (Frm.setCells (Frm.refl (fun b => b = gV) w25) (g := gV) (fun _ => rfl) [.int .i64 (m2 : Int), .slice QA k4.length qa] 6).blk KLH.out (by omega)
         rw [show w25.setCells gV 6 [.int .i64 (m2 : Int), .slice QA k4.length qa] = w26 from HW.out.symm] at KL
         clear HW T4 rv fv KV KB RL he KLH
         have KV := KV2; have KB := KB2; have RL := Lib.hid RL2; have he := he2
         clear KV2 KB2 RL2 he2
         obtain ⟨rl, fl⟩ := KL.rules
         obtain ⟨w27, hw, KV2, KB2, RL2, he2⟩ : ∃ w27, w27 = w26.setCells gV 8 [.int .i64 lh.number, .int .i64 lh.size, .string lh.root, .int .i64 lh.taken, .string lh.takenRoot] ∧ Blk w27 gV 59 #[.int .i64 n, .slice VE es.length cE, .slice VR rs.length cR, .slice VH hs.length cH, .int .i64 (m1 : Int), .slice PA k3.length pa, .int .i64 (m2 : Int), .slice QA k4.length qa, .int .i64 lh.number, .int .i64 lh.size, .string lh.root, .int .i64 lh.taken, .string lh.takenRoot] ∧ Blk w27 gR 59 #[.int .i64 0, .slice none 0 0, .slice none 0 0, .slice none 0 0, .int .i64 0, .slice none 0 0, .int .i64 0, .slice none 0 0, .int .i64 0, .int .i64 0, .string ⟨#[]⟩, .int .i64 0, .string ⟨#[]⟩] ∧ RowsIn w.heap.size w27 [(9, 1, .slice QA k4.length qa, k4.length, k4.flatMap sone), (9, 1, .slice PA k3.length pa, k3.length, k3.flatMap sone), (55, 5, .slice VH hs.length cH, hs.length, hs.flatMap HeadD.cells), (112, 3, .slice V dm.length cv, dm.length, dm.flatMap WriteD.cells), (22, 1, .slice (some ⟨bp, 0, none⟩) 3 cp, 3, [.slice A0 F0.length a0, .slice A1 F1.length a1, .slice A2 F2.length a2]), (9, 1, .slice A0 F0.length a0, F0.length, F0.flatMap sone), (9, 1, .slice A1 F1.length a1, F1.length, F1.flatMap sone), (9, 1, .slice A2 F2.length a2, F2.length, F2.flatMap sone), (46, 5, .slice VE es.length cE, es.length, es.flatMap EntryD.cells), (77, 3, .slice VR rs.length cR, rs.length, rs.flatMap ReceiptD.cells)] ∧ Ext w w27 := by
          have hf := Frm.setCells (Frm.refl (fun b => b = gV) w26) (g := gV) (fun _ => rfl) [.int .i64 lh.number, .int .i64 lh.size, .string lh.root, .int .i64 lh.taken, .string lh.takenRoot] 8
          exact ⟨_, rfl, KV.put 8 [.int .i64 lh.number, .int .i64 lh.size, .string lh.root, .int .i64 lh.taken, .string lh.takenRoot] #[.int .i64 n, .slice VE es.length cE, .slice VR rs.length cR, .slice VH hs.length cH, .int .i64 (m1 : Int), .slice PA k3.length pa, .int .i64 (m2 : Int), .slice QA k4.length qa, .int .i64 lh.number, .int .i64 lh.size, .string lh.root, .int .i64 lh.taken, .string lh.takenRoot] (by simp) rfl, hf.blk KB (by omega), RowsIn.put RL.out KV (by simp) [.int .i64 lh.number, .int .i64 lh.size, .string lh.root, .int .i64 lh.taken, .string lh.takenRoot] 8, hf.toExt he (fun y hy e => by have := hRV; have := HgR.out; omega)⟩
         have HW := Lib.hid hw
         have T4 := Lib.hid (KV.there 8 5 (by simp))
         obtain ⟨rv, fv⟩ := KV.rules
         clear hw
         go_upto_region 48 with (refine wpList_store_list rfl 55 _ _ rfl rfl gV 8 [.int .i64 lh.number, .int .i64 lh.size, .string lh.root, .int .i64 lh.taken, .string lh.takenRoot] rfl rfl T4.out (by kernel_rfl) (by rfl) ?_; rw [← HW.out])
         clear HW T4 rv fv KV KB RL he rl fl KL
         have KV := KV2; have KB := KB2; have RL := Lib.hid RL2; have he := he2
         clear KV2 KB2 RL2 he2
         obtain ⟨bL, hbL⟩ : ∃ bL : BrokerD, bL = ⟨n, ⟨es⟩, rs, hs, ⟨⟨(m1 : Int), k3⟩, ⟨(m2 : Int), k4⟩, lh⟩⟩ := ⟨_, rfl⟩
         have HBL := Lib.hid (show bL = reB n l by
          have h2 : reB n l = ⟨n, ⟨(reB0 n l).log.entries⟩, (reB0 n l).receipts, (reB0 n l).heads, (reB n l).sealed⟩ := rfl
          rw [h2, HS.out, ← EE.out, ← ER.out, ← EH.out, hbL])
         have CL := Lib.hid (show Calls Tryz.prog 45 #[.agg #[.int .i64 n, .slice VE es.length cE, .slice VR rs.length cR, .slice VH hs.length cH, .int .i64 (m1 : Int), .slice PA k3.length pa, .int .i64 (m2 : Int), .slice QA k4.length qa, .int .i64 lh.number, .int .i64 lh.size, .string lh.root, .int .i64 lh.taken, .string lh.takenRoot]] w27 (fun e w' => e = .returned (.bool (brokerB bL)) ∧ Ext w27 w') by
          rw [hbL]
          exact specBrokerOk_any ⟨n, ⟨es⟩, rs, hs, ⟨⟨(m1 : Int), k3⟩, ⟨(m2 : Int), k4⟩, lh⟩⟩ VE cE VR cR VH cH PA pa QA qa w27 (slf_at (RL.out.tail.tail.tail.tail.tail.tail.tail.tail.head)) (slf_at (RL.out.tail.tail.tail.tail.tail.tail.tail.tail.tail.head)) (slf_at (RL.out.tail.tail.head)) (slf_at (RL.out.tail.head)) (slf_at (RL.out.head)) OKE.out OKR.out P1.out P2.out)
         have BB := Lib.hid (show brokerB bL = brkParts (reB0 n l) by rw [HBL.out, broker_reB])
         clear hbL
         have RX := Lib.hid (Blk.range KV)
         go_wp2_with (refine wpList_load_want (by rfl) 59 _ rfl gV 0 rfl [.int .i64 n, .slice VE es.length cE, .slice VR rs.length cR, .slice VH hs.length cH, .int .i64 (m1 : Int), .slice PA k3.length pa, .int .i64 (m2 : Int), .slice QA k4.length qa, .int .i64 lh.number, .int .i64 lh.size, .string lh.root, .int .i64 lh.taken, .string lh.takenRoot] _ RX.out Tryz.underlying59 rfl (by kernel_rfl) ?_)
         refine CL.out.mono ?_
         rintro e w40 ⟨rfl, h1⟩
         replace KV := KV.ext h1; replace KB := KB.ext h1; replace RL := Lib.hid (RowsIn.ext RL.out h1); replace he := he.next h1
         clear h1 CL RX
         cases hb : brokerB bL
         case false =>
          have E := Lib.hid (show reCode n l = 4 from E4.out false (by rw [← BB.out, hb]))
          clear hb
          obtain ⟨wz, hw, hz, hx⟩ : ∃ wz, wz = (w40.alloc (.cells #[] 112)).setCells gR 0 [.int .i64 0, .slice none 0 0, .slice none 0 0, .slice none 0 0, .int .i64 0, .slice none 0 0, .int .i64 0, .slice none 0 0, .int .i64 0, .int .i64 0, .string ⟨#[]⟩, .int .i64 0, .string ⟨#[]⟩] ∧ Blk wz gR 59 #[.int .i64 0, .slice none 0 0, .slice none 0 0, .slice none 0 0, .int .i64 0, .slice none 0 0, .int .i64 0, .slice none 0 0, .int .i64 0, .int .i64 0, .string ⟨#[]⟩, .int .i64 0, .string ⟨#[]⟩] ∧ Ext w wz := ⟨_, rfl, (KB.alloc _).put 0 [.int .i64 0, .slice none 0 0, .slice none 0 0, .slice none 0 0, .int .i64 0, .slice none 0 0, .int .i64 0, .slice none 0 0, .int .i64 0, .int .i64 0, .string ⟨#[]⟩, .int .i64 0, .string ⟨#[]⟩] #[.int .i64 0, .slice none 0 0, .slice none 0 0, .slice none 0 0, .int .i64 0, .slice none 0 0, .int .i64 0, .slice none 0 0, .int .i64 0, .int .i64 0, .string ⟨#[]⟩, .int .i64 0, .string ⟨#[]⟩] (by simp) rfl, ext_setCells (W := w) (g := gR) (by have := HgR.out; omega) [.int .i64 0, .slice none 0 0, .slice none 0 0, .slice none 0 0, .int .i64 0, .slice none 0 0, .int .i64 0, .slice none 0 0, .int .i64 0, .int .i64 0, .string ⟨#[]⟩, .int .i64 0, .string ⟨#[]⟩] 0 _ (he.new _)⟩
          have T4 := Lib.hid ((KB.alloc (.cells #[] 112)).there 0 13 (by simp))
          have OE := Lib.hid (show wz.ownsRow w.heap.size 112 3 (.slice (some ⟨w40.heap.size, 0, none⟩) 0 0) 0 [] by
           have hf := Frm.setCells (Frm.refl (fun b => b = gR) (w40.alloc (.cells #[] 112))) (g := gR) (fun _ => rfl) [.int .i64 0, .slice none 0 0, .slice none 0 0, .slice none 0 0, .int .i64 0, .slice none 0 0, .int .i64 0, .slice none 0 0, .int .i64 0, .int .i64 0, .string ⟨#[]⟩, .int .i64 0, .string ⟨#[]⟩] 0
           have h1 := ownsRow_empty w40 112 3
           have h2 := hf.own h1 (fun y hy => own_ne h1 (KB.alloc _) (by decide) y hy)
           rw [hw]
           exact ownsRow_base h2 he.size)
          have HW := Lib.hid hw; have Z4 := Lib.hid hz; have X4 := Lib.hid hx
          clear hw hz hx
          go_upto_region 51 with fail
          rename_i KK2 aa2
          revert aa2
          go_light
          intro aa2
          have AA := Lib.hid aa2
          clear aa2
          go_wp2_with (refine wpList_store_list rfl 59 _ _ rfl rfl gR 0 [.int .i64 0, .slice none 0 0, .slice none 0 0, .slice none 0 0, .int .i64 0, .slice none 0 0, .int .i64 0, .slice none 0 0, .int .i64 0, .int .i64 0, .string ⟨#[]⟩, .int .i64 0, .string ⟨#[]⟩] rfl rfl T4.out (by kernel_rfl) (by rfl) ?_; rw [← HW.out])
          refine AA.out _ _ (wp_ret ?_)
          refine ret_row_two rfl rfl Z4.out Tryz.underlying59 rfl (by kernel_rfl) rfl ?_
          exact ReAns.bad E.out (by decide) rfl OE.out X4.out
         have GF := Lib.hid (show reCode n l = 0 from E4.out true (by rw [← BB.out, hb]))
         clear hb
         obtain ⟨wz, hw, hz, hx, hR⟩ : ∃ wz, wz = w40.setCells gR 0 [.int .i64 n, .slice VE es.length cE, .slice VR rs.length cR, .slice VH hs.length cH, .int .i64 (m1 : Int), .slice PA k3.length pa, .int .i64 (m2 : Int), .slice QA k4.length qa, .int .i64 lh.number, .int .i64 lh.size, .string lh.root, .int .i64 lh.taken, .string lh.takenRoot] ∧ Blk wz gR 59 #[.int .i64 n, .slice VE es.length cE, .slice VR rs.length cR, .slice VH hs.length cH, .int .i64 (m1 : Int), .slice PA k3.length pa, .int .i64 (m2 : Int), .slice QA k4.length qa, .int .i64 lh.number, .int .i64 lh.size, .string lh.root, .int .i64 lh.taken, .string lh.takenRoot] ∧ Ext w wz ∧ RowsIn w.heap.size wz [(9, 1, .slice QA k4.length qa, k4.length, k4.flatMap sone), (9, 1, .slice PA k3.length pa, k3.length, k3.flatMap sone), (55, 5, .slice VH hs.length cH, hs.length, hs.flatMap HeadD.cells), (112, 3, .slice V dm.length cv, dm.length, dm.flatMap WriteD.cells), (22, 1, .slice (some ⟨bp, 0, none⟩) 3 cp, 3, [.slice A0 F0.length a0, .slice A1 F1.length a1, .slice A2 F2.length a2]), (9, 1, .slice A0 F0.length a0, F0.length, F0.flatMap sone), (9, 1, .slice A1 F1.length a1, F1.length, F1.flatMap sone), (9, 1, .slice A2 F2.length a2, F2.length, F2.flatMap sone), (46, 5, .slice VE es.length cE, es.length, es.flatMap EntryD.cells), (77, 3, .slice VR rs.length cR, rs.length, rs.flatMap ReceiptD.cells)] := ⟨_, rfl, KB.put 0 [.int .i64 n, .slice VE es.length cE, .slice VR rs.length cR, .slice VH hs.length cH, .int .i64 (m1 : Int), .slice PA k3.length pa, .int .i64 (m2 : Int), .slice QA k4.length qa, .int .i64 lh.number, .int .i64 lh.size, .string lh.root, .int .i64 lh.taken, .string lh.takenRoot] #[.int .i64 n, .slice VE es.length cE, .slice VR rs.length cR, .slice VH hs.length cH, .int .i64 (m1 : Int), .slice PA k3.length pa, .int .i64 (m2 : Int), .slice QA k4.length qa, .int .i64 lh.number, .int .i64 lh.size, .string lh.root, .int .i64 lh.taken, .string lh.takenRoot] (by simp) rfl, ext_setCells (W := w) (g := gR) (by have := HgR.out; omega) [.int .i64 n, .slice VE es.length cE, .slice VR rs.length cR, .slice VH hs.length cH, .int .i64 (m1 : Int), .slice PA k3.length pa, .int .i64 (m2 : Int), .slice QA k4.length qa, .int .i64 lh.number, .int .i64 lh.size, .string lh.root, .int .i64 lh.taken, .string lh.takenRoot] 0 _ he, RowsIn.put RL.out KB (by simp) [.int .i64 n, .slice VE es.length cE, .slice VR rs.length cR, .slice VH hs.length cH, .int .i64 (m1 : Int), .slice PA k3.length pa, .int .i64 (m2 : Int), .slice QA k4.length qa, .int .i64 lh.number, .int .i64 lh.size, .string lh.root, .int .i64 lh.taken, .string lh.takenRoot] 0⟩
         have HW := Lib.hid hw; have T4 := Lib.hid (KB.there 0 13 (by simp)); have Z4 := Lib.hid hz; have X4 := Lib.hid hx; have RZ := Lib.hid hR
         have RX := Lib.hid (Blk.range KV)
         clear hw hz hx hR
         go_upto_region 52 with fail
         rename_i KK2 aa2
         revert aa2
         go_light
         intro aa2
         have AA := Lib.hid aa2
         clear aa2
         go_wp2_with (first | (refine wpList_load_mid rfl 59 _ rfl gV 0 rfl [.int .i64 n, .slice VE es.length cE, .slice VR rs.length cR, .slice VH hs.length cH, .int .i64 (m1 : Int), .slice PA k3.length pa, .int .i64 (m2 : Int), .slice QA k4.length qa, .int .i64 lh.number, .int .i64 lh.size, .string lh.root, .int .i64 lh.taken, .string lh.takenRoot] _ RX.out Tryz.underlying59 rfl (by kernel_rfl) ?_) | (refine wpList_store_list rfl 59 _ _ rfl rfl gR 0 [.int .i64 n, .slice VE es.length cE, .slice VR rs.length cR, .slice VH hs.length cH, .int .i64 (m1 : Int), .slice PA k3.length pa, .int .i64 (m2 : Int), .slice QA k4.length qa, .int .i64 lh.number, .int .i64 lh.size, .string lh.root, .int .i64 lh.taken, .string lh.takenRoot] rfl rfl T4.out (by kernel_rfl) (by rfl) ?_; rw [← HW.out]))
         have ee := EE.out; have er := ER.out; have eh := EH.out; have hdm := HDM.out
         clear HW T4 RX
         subst ee er eh hdm
         refine AA.out _ _ (wp_ret ?_)
         refine ret_row_two rfl rfl Z4.out Tryz.underlying59 rfl (by kernel_rfl) rfl ?_
         exact (ReAns.good GF.out (by rw [brkCs, HS.out]; rfl) ⟨RZ.out.tail.tail.tail.tail.tail.tail.tail.tail.head, RZ.out.tail.tail.tail.tail.tail.tail.tail.tail.tail.head, RZ.out.tail.tail.head, by rw [HS.out]; exact RZ.out.tail.head, by rw [HS.out]; exact RZ.out.head⟩ APH.out RZ.out.tail.tail.tail.head X4.out)
        obtain ⟨x, hx⟩ : ∃ x, F1[k]? = some x := ⟨F1[k], List.getElem?_eq_getElem hlt⟩
        obtain ⟨b, off, rfl, hb, c0⟩ := texts_cell (Reads.of_own (c := a1) (RL.out.tail.tail.tail.head)) hx
        have hxs := FS1.out x (List.mem_of_getElem? hx)
        have X := Lib.hid hx
        clear hx
        go_wp2_with fail
        refine (specReadHead_any n x _ hxs).mono ?_
        rintro e w1 ⟨rfl, h1⟩
        replace KV := KV.ext h1; replace KB := KB.ext h1; replace RL := Lib.hid (RowsIn.ext RL.out h1); replace KO := Lib.hid (ownsRow_ext KO.out h1); replace he := he.next h1
        clear h1 c0 p0 p1 p2
        obtain ⟨ok, hok⟩ : ∃ ok, ok = (hrSpec n) x := ⟨_, rfl⟩
        obtain ⟨d, hd⟩ : ∃ d, d = (fun x => hrOut (hrSpec n x) (hrD n x)) x := ⟨_, rfl⟩
        have hend : hrRes (hrSpec n x) (hrD n x) = .returned (.tuple #[.agg d.cells.toArray, .bool ok]) := by rw [hd, hok]; rfl
        rw [hend]
        have HD := Lib.hid hd; have HOK := Lib.hid hok
        obtain ⟨hkl, hkd⟩ := List.getElem?_eq_some_iff.1 X.out
        have TK := Lib.hid (show F1.take (k + 1) = F1.take k ++ [x] by rw [List.take_succ_eq_append_getElem hkl, hkd])
        have e2 : ((h0 :: (F1.take k).map (fun x => hrOut (hrSpec n x) (hrD n x))).flatMap HeadD.cells) ++ HeadD.cells d = ((h0 :: (F1.take (k + 1)).map (fun x => hrOut (hrSpec n x) (hrD n x))).flatMap HeadD.cells) := by rw [TK.out, HD.out]; simp
        have E2 := Lib.hid e2
        clear hend hd hok hkl hkd e2
        simp only [HeadD.cells]
        go_upto_region 36 with fail
        have kd := Blk.new w1 55 #[.int .i64 d.number, .int .i64 d.size, .string d.root, .int .i64 d.taken, .string d.takenRoot]
        have hx1 := Ext.new (Below.refl w1.heap.size w1) (.cells #[.int .i64 d.number, .int .i64 d.size, .string d.root, .int .i64 d.taken, .string d.takenRoot] 55)
        replace KV := KV.ext hx1; replace KB := KB.ext hx1; replace RL := Lib.hid (RowsIn.ext RL.out hx1); replace KO := Lib.hid (ownsRow_ext KO.out hx1); replace he := he.next hx1
        obtain ⟨qd, hq⟩ : ∃ qd, qd = w1.heap.size := ⟨_, rfl⟩
        rw [← hq] at kd
        rw [← hq]
        clear hq hx1
        obtain ⟨w2, hw2⟩ : ∃ w2, w2 = w1.alloc (.cells #[.int .i64 d.number, .int .i64 d.size, .string d.root, .int .i64 d.taken, .string d.takenRoot] 55) := ⟨_, rfl⟩
        rw [← hw2] at kd he KO RL KB KV
        rw [← hw2]
        clear hw2
        cases ok
        · rcases Nat.eq_zero_or_pos cc with z0 | z0
          · have z1 : ((cc : Int) == 0) = true := beq_iff_eq.2 (by omega)
            have CZ := Lib.hid (show cB k2 4 (hrSpec n) (F1.take k) = 0 from by rw [← HC.out, z0])
            clear z0
            have HN := Lib.hid (show ((4 : Nat) : Int) = ((cB k2 4 (hrSpec n) (F1.take (k + 1)) : Nat) : Int) by rw [TK.out]; rw [cB_bad HOK.out.symm, if_pos CZ.out])
            obtain ⟨rq, fq⟩ := kd.rules
            obtain ⟨rv, fv⟩ := KV.rules
            have hws := he.size
            have KVH := Lib.hid KV; have KBH := Lib.hid KB
            clear KV KB
            go_wp2_with (at_builtin; refine wpList_append_moved _ rfl _ _ 53 rfl w.heap.size 55 iH (.agg #[.int .i64 0, .int .i64 0, .string ⟨#[]⟩, .int .i64 0, .string ⟨#[]⟩]) 5 56 Tryz.underlying53 hiH hz0H hz1H hz2H rfl (by decide) _ _ _ rfl (World.ownsRow.alloc (w := w2) KO.out _) ⟨w2.heap.size, 0, none⟩ 1 1 (#[.int .i64 d.number, .int .i64 d.size, .string d.root, .int .i64 d.taken, .string d.takenRoot] : Array Value).toList rfl rfl ?hHa1 ?hHa2 ?hHa3 ?hHa4 ?hHa5 ?_)
            case hHa2 => exact ⟨rfl, rfl, rfl, rfl, rfl⟩
            case hHa3 => unfold maxLen; omega
            case hHa4 => omega
            case hHa5 => (try simp); omega
            intro v' w3 hown' hfrm hmv
            obtain ⟨VX, cX, rfl, hnX⟩ := ownsRow_form hown'
            have L0 := Lib.hid KO.out.lt
            have he2 : Ext w w3 := hfrm.toExt (he.new _) (fun y hy e => by have := (L0.out _ e).1; omega)
            have KV3 := hfrm.blk (KVH.out.alloc _) (fun e => own_ne KO.out KVH.out (by decide) _ e rfl)
            have KB3 := hfrm.blk (KBH.out.alloc _) (fun e => own_ne KO.out KBH.out (by decide) _ e rfl)
            have RL3 := RowsIn.frm (RowsIn.ext RL.out (Ext.new (Below.refl w2.heap.size w2) (.cells #[.int .i64 d.number, .int .i64 d.size, .string d.root, .int .i64 d.taken, .string d.takenRoot] 55))) (World.ownsRow.alloc (w := w2) KO.out (.cells #[.int .i64 d.number, .int .i64 d.size, .string d.root, .int .i64 d.taken, .string d.takenRoot] 55)) hfrm (by simp)
            have O3 : w3.ownsRow w.heap.size 55 5 (.slice VX (k + 1 + 1) cX) (k + 1 + 1) ((h0 :: (F1.take (k + 1)).map (fun x => hrOut (hrSpec n x) (hrD n x))).flatMap HeadD.cells) := by rw [← E2.out, List.map_take]; exact hown'
            obtain ⟨w4, hw, KV2, KB2, RL2, O4, he4⟩ : ∃ w4, w4 = w3.setCell ⟨gV, 3, none⟩ (.slice VX (k + 1 + 1) cX) ∧ Blk w4 gV 59 #[.int .i64 n, .slice VE es.length cE, .slice VR rs.length cR, .slice VX (k + 1 + 1) cX, .int .i64 0, .slice none 0 0, .int .i64 0, .slice none 0 0, .int .i64 (h0).number, .int .i64 (h0).size, .string (h0).root, .int .i64 (h0).taken, .string (h0).takenRoot] ∧ Blk w4 gR 59 #[.int .i64 0, .slice none 0 0, .slice none 0 0, .slice none 0 0, .int .i64 0, .slice none 0 0, .int .i64 0, .slice none 0 0, .int .i64 0, .int .i64 0, .string ⟨#[]⟩, .int .i64 0, .string ⟨#[]⟩] ∧ RowsIn w.heap.size w4 [(112, 3, .slice V dm.length cv, dm.length, dm.flatMap WriteD.cells), (22, 1, .slice (some ⟨bp, 0, none⟩) 3 cp, 3, [.slice A0 F0.length a0, .slice (some ⟨b, off, none⟩) F1.length a1, .slice A2 F2.length a2]), (9, 1, .slice A0 F0.length a0, F0.length, F0.flatMap sone), (9, 1, .slice (some ⟨b, off, none⟩) F1.length a1, F1.length, F1.flatMap sone), (9, 1, .slice A2 F2.length a2, F2.length, F2.flatMap sone), (46, 5, .slice VE es.length cE, es.length, es.flatMap EntryD.cells), (77, 3, .slice VR rs.length cR, rs.length, rs.flatMap ReceiptD.cells)] ∧ w4.ownsRow w.heap.size 55 5 (.slice VX (k + 1 + 1) cX) (k + 1 + 1) ((h0 :: (F1.take (k + 1)).map (fun x => hrOut (hrSpec n x) (hrD n x))).flatMap HeadD.cells) ∧ Ext w w4 := by
             have hf := Frm.setCells (Frm.refl (fun b => b = gV) w3) (g := gV) (fun _ => rfl) [.slice VX (k + 1 + 1) cX] 3
             exact ⟨_, rfl, KV3.put 3 [.slice VX (k + 1 + 1) cX] #[.int .i64 n, .slice VE es.length cE, .slice VR rs.length cR, .slice VX (k + 1 + 1) cX, .int .i64 0, .slice none 0 0, .int .i64 0, .slice none 0 0, .int .i64 (h0).number, .int .i64 (h0).size, .string (h0).root, .int .i64 (h0).taken, .string (h0).takenRoot] (by simp) rfl, hf.blk KB3 (by omega), RowsIn.put RL3 KV3 (by simp) [.slice VX (k + 1 + 1) cX] 3, hf.own O3 (fun y hy => own_ne O3 KV3 (by decide) y hy), hf.toExt he2 (fun y hy e => by have := hRV; have := HgR.out; omega)⟩
            have HW := Lib.hid hw; have RL4 := Lib.hid RL2; have O4H := Lib.hid O4; have KV4 := Lib.hid KV2; have KB4 := Lib.hid KB2
            have hnt : (3 : Nat) = 3 := rfl
            clear hw hown' hnX hfrm hmv L0 KB3 RL3 O3 RL2 O4 KV2 KB2 RL KO KVH KBH rq fq rv fv he he2 hnt
            obtain ⟨rv, fv⟩ := KV3.rules
            clear KV3
            go_upto_region 34 with fail
            rw [← HW.out]
            clear rv fv HW
            go_wp2_with fail
            go_roundw
            case rel => (repeat apply Exists.intro); exact ⟨⟨k + 1, _, by omega, by go_num, by (rw [← HN.out]) <;> rfl, O4H.out, KV4.out, KB4.out, RL4.out, he4⟩, rfl⟩
            case measure => simp [intOf]; omega
          · have z1 : ((cc : Int) == 0) = false := beq_false_of_ne (by omega)
            have CZ := Lib.hid (show ¬ cB k2 4 (hrSpec n) (F1.take k) = 0 from by rw [← HC.out]; omega)
            clear z0
            have HN := Lib.hid (show ((cc : Nat) : Int) = ((cB k2 4 (hrSpec n) (F1.take (k + 1)) : Nat) : Int) by rw [TK.out]; rw [cB_bad HOK.out.symm, if_neg CZ.out, HC.out])
            obtain ⟨rq, fq⟩ := kd.rules
            obtain ⟨rv, fv⟩ := KV.rules
            have hws := he.size
            have KVH := Lib.hid KV; have KBH := Lib.hid KB
            clear KV KB
            go_wp2_with (at_builtin; refine wpList_append_moved _ rfl _ _ 53 rfl w.heap.size 55 iH (.agg #[.int .i64 0, .int .i64 0, .string ⟨#[]⟩, .int .i64 0, .string ⟨#[]⟩]) 5 56 Tryz.underlying53 hiH hz0H hz1H hz2H rfl (by decide) _ _ _ rfl (World.ownsRow.alloc (w := w2) KO.out _) ⟨w2.heap.size, 0, none⟩ 1 1 (#[.int .i64 d.number, .int .i64 d.size, .string d.root, .int .i64 d.taken, .string d.takenRoot] : Array Value).toList rfl rfl ?hHb1 ?hHb2 ?hHb3 ?hHb4 ?hHb5 ?_)
            case hHb2 => exact ⟨rfl, rfl, rfl, rfl, rfl⟩
            case hHb3 => unfold maxLen; omega
            case hHb4 => omega
            case hHb5 => (try simp); omega
            intro v' w3 hown' hfrm hmv
            obtain ⟨VX, cX, rfl, hnX⟩ := ownsRow_form hown'
            have L0 := Lib.hid KO.out.lt
            have he2 : Ext w w3 := hfrm.toExt (he.new _) (fun y hy e => by have := (L0.out _ e).1; omega)
            have KV3 := hfrm.blk (KVH.out.alloc _) (fun e => own_ne KO.out KVH.out (by decide) _ e rfl)
            have KB3 := hfrm.blk (KBH.out.alloc _) (fun e => own_ne KO.out KBH.out (by decide) _ e rfl)
            have RL3 := RowsIn.frm (RowsIn.ext RL.out (Ext.new (Below.refl w2.heap.size w2) (.cells #[.int .i64 d.number, .int .i64 d.size, .string d.root, .int .i64 d.taken, .string d.takenRoot] 55))) (World.ownsRow.alloc (w := w2) KO.out (.cells #[.int .i64 d.number, .int .i64 d.size, .string d.root, .int .i64 d.taken, .string d.takenRoot] 55)) hfrm (by simp)
            have O3 : w3.ownsRow w.heap.size 55 5 (.slice VX (k + 1 + 1) cX) (k + 1 + 1) ((h0 :: (F1.take (k + 1)).map (fun x => hrOut (hrSpec n x) (hrD n x))).flatMap HeadD.cells) := by rw [← E2.out, List.map_take]; exact hown'
            obtain ⟨w4, hw, KV2, KB2, RL2, O4, he4⟩ : ∃ w4, w4 = w3.setCell ⟨gV, 3, none⟩ (.slice VX (k + 1 + 1) cX) ∧ Blk w4 gV 59 #[.int .i64 n, .slice VE es.length cE, .slice VR rs.length cR, .slice VX (k + 1 + 1) cX, .int .i64 0, .slice none 0 0, .int .i64 0, .slice none 0 0, .int .i64 (h0).number, .int .i64 (h0).size, .string (h0).root, .int .i64 (h0).taken, .string (h0).takenRoot] ∧ Blk w4 gR 59 #[.int .i64 0, .slice none 0 0, .slice none 0 0, .slice none 0 0, .int .i64 0, .slice none 0 0, .int .i64 0, .slice none 0 0, .int .i64 0, .int .i64 0, .string ⟨#[]⟩, .int .i64 0, .string ⟨#[]⟩] ∧ RowsIn w.heap.size w4 [(112, 3, .slice V dm.length cv, dm.length, dm.flatMap WriteD.cells), (22, 1, .slice (some ⟨bp, 0, none⟩) 3 cp, 3, [.slice A0 F0.length a0, .slice (some ⟨b, off, none⟩) F1.length a1, .slice A2 F2.length a2]), (9, 1, .slice A0 F0.length a0, F0.length, F0.flatMap sone), (9, 1, .slice (some ⟨b, off, none⟩) F1.length a1, F1.length, F1.flatMap sone), (9, 1, .slice A2 F2.length a2, F2.length, F2.flatMap sone), (46, 5, .slice VE es.length cE, es.length, es.flatMap EntryD.cells), (77, 3, .slice VR rs.length cR, rs.length, rs.flatMap ReceiptD.cells)] ∧ w4.ownsRow w.heap.size 55 5 (.slice VX (k + 1 + 1) cX) (k + 1 + 1) ((h0 :: (F1.take (k + 1)).map (fun x => hrOut (hrSpec n x) (hrD n x))).flatMap HeadD.cells) ∧ Ext w w4 := by
             have hf := Frm.setCells (Frm.refl (fun b => b = gV) w3) (g := gV) (fun _ => rfl) [.slice VX (k + 1 + 1) cX] 3
             exact ⟨_, rfl, KV3.put 3 [.slice VX (k + 1 + 1) cX] #[.int .i64 n, .slice VE es.length cE, .slice VR rs.length cR, .slice VX (k + 1 + 1) cX, .int .i64 0, .slice none 0 0, .int .i64 0, .slice none 0 0, .int .i64 (h0).number, .int .i64 (h0).size, .string (h0).root, .int .i64 (h0).taken, .string (h0).takenRoot] (by simp) rfl, hf.blk KB3 (by omega), RowsIn.put RL3 KV3 (by simp) [.slice VX (k + 1 + 1) cX] 3, hf.own O3 (fun y hy => own_ne O3 KV3 (by decide) y hy), hf.toExt he2 (fun y hy e => by have := hRV; have := HgR.out; omega)⟩
            have HW := Lib.hid hw; have RL4 := Lib.hid RL2; have O4H := Lib.hid O4; have KV4 := Lib.hid KV2; have KB4 := Lib.hid KB2
            have hnt : (3 : Nat) = 3 := rfl
            clear hw hown' hnX hfrm hmv L0 KB3 RL3 O3 RL2 O4 KV2 KB2 RL KO KVH KBH rq fq rv fv he he2 hnt
            obtain ⟨rv, fv⟩ := KV3.rules
            clear KV3
            go_upto_region 34 with fail
            rw [← HW.out]
            clear rv fv HW
            go_wp2_with fail
            go_roundw
            case rel => (repeat apply Exists.intro); exact ⟨⟨k + 1, _, by omega, by go_num, by (rw [← HN.out]) <;> rfl, O4H.out, KV4.out, KB4.out, RL4.out, he4⟩, rfl⟩
            case measure => simp [intOf]; omega
        · skip
          have HN := Lib.hid (show ((cc : Nat) : Int) = ((cB k2 4 (hrSpec n) (F1.take (k + 1)) : Nat) : Int) by rw [TK.out]; rw [cB_good HOK.out.symm, HC.out])
          obtain ⟨rq, fq⟩ := kd.rules
          obtain ⟨rv, fv⟩ := KV.rules
          have hws := he.size
          have KVH := Lib.hid KV; have KBH := Lib.hid KB
          clear KV KB
          go_wp2_with (at_builtin; refine wpList_append_moved _ rfl _ _ 53 rfl w.heap.size 55 iH (.agg #[.int .i64 0, .int .i64 0, .string ⟨#[]⟩, .int .i64 0, .string ⟨#[]⟩]) 5 56 Tryz.underlying53 hiH hz0H hz1H hz2H rfl (by decide) _ _ _ rfl (World.ownsRow.alloc (w := w2) KO.out _) ⟨w2.heap.size, 0, none⟩ 1 1 (#[.int .i64 d.number, .int .i64 d.size, .string d.root, .int .i64 d.taken, .string d.takenRoot] : Array Value).toList rfl rfl ?hHc1 ?hHc2 ?hHc3 ?hHc4 ?hHc5 ?_)
          case hHc2 => exact ⟨rfl, rfl, rfl, rfl, rfl⟩
          case hHc3 => unfold maxLen; omega
          case hHc4 => omega
          case hHc5 => (try simp); omega
          intro v' w3 hown' hfrm hmv
          obtain ⟨VX, cX, rfl, hnX⟩ := ownsRow_form hown'
          have L0 := Lib.hid KO.out.lt
          have he2 : Ext w w3 := hfrm.toExt (he.new _) (fun y hy e => by have := (L0.out _ e).1; omega)
          have KV3 := hfrm.blk (KVH.out.alloc _) (fun e => own_ne KO.out KVH.out (by decide) _ e rfl)
          have KB3 := hfrm.blk (KBH.out.alloc _) (fun e => own_ne KO.out KBH.out (by decide) _ e rfl)
          have RL3 := RowsIn.frm (RowsIn.ext RL.out (Ext.new (Below.refl w2.heap.size w2) (.cells #[.int .i64 d.number, .int .i64 d.size, .string d.root, .int .i64 d.taken, .string d.takenRoot] 55))) (World.ownsRow.alloc (w := w2) KO.out (.cells #[.int .i64 d.number, .int .i64 d.size, .string d.root, .int .i64 d.taken, .string d.takenRoot] 55)) hfrm (by simp)
          have O3 : w3.ownsRow w.heap.size 55 5 (.slice VX (k + 1 + 1) cX) (k + 1 + 1) ((h0 :: (F1.take (k + 1)).map (fun x => hrOut (hrSpec n x) (hrD n x))).flatMap HeadD.cells) := by rw [← E2.out, List.map_take]; exact hown'
          obtain ⟨w4, hw, KV2, KB2, RL2, O4, he4⟩ : ∃ w4, w4 = w3.setCell ⟨gV, 3, none⟩ (.slice VX (k + 1 + 1) cX) ∧ Blk w4 gV 59 #[.int .i64 n, .slice VE es.length cE, .slice VR rs.length cR, .slice VX (k + 1 + 1) cX, .int .i64 0, .slice none 0 0, .int .i64 0, .slice none 0 0, .int .i64 (h0).number, .int .i64 (h0).size, .string (h0).root, .int .i64 (h0).taken, .string (h0).takenRoot] ∧ Blk w4 gR 59 #[.int .i64 0, .slice none 0 0, .slice none 0 0, .slice none 0 0, .int .i64 0, .slice none 0 0, .int .i64 0, .slice none 0 0, .int .i64 0, .int .i64 0, .string ⟨#[]⟩, .int .i64 0, .string ⟨#[]⟩] ∧ RowsIn w.heap.size w4 [(112, 3, .slice V dm.length cv, dm.length, dm.flatMap WriteD.cells), (22, 1, .slice (some ⟨bp, 0, none⟩) 3 cp, 3, [.slice A0 F0.length a0, .slice (some ⟨b, off, none⟩) F1.length a1, .slice A2 F2.length a2]), (9, 1, .slice A0 F0.length a0, F0.length, F0.flatMap sone), (9, 1, .slice (some ⟨b, off, none⟩) F1.length a1, F1.length, F1.flatMap sone), (9, 1, .slice A2 F2.length a2, F2.length, F2.flatMap sone), (46, 5, .slice VE es.length cE, es.length, es.flatMap EntryD.cells), (77, 3, .slice VR rs.length cR, rs.length, rs.flatMap ReceiptD.cells)] ∧ w4.ownsRow w.heap.size 55 5 (.slice VX (k + 1 + 1) cX) (k + 1 + 1) ((h0 :: (F1.take (k + 1)).map (fun x => hrOut (hrSpec n x) (hrD n x))).flatMap HeadD.cells) ∧ Ext w w4 := by
           have hf := Frm.setCells (Frm.refl (fun b => b = gV) w3) (g := gV) (fun _ => rfl) [.slice VX (k + 1 + 1) cX] 3
           exact ⟨_, rfl, KV3.put 3 [.slice VX (k + 1 + 1) cX] #[.int .i64 n, .slice VE es.length cE, .slice VR rs.length cR, .slice VX (k + 1 + 1) cX, .int .i64 0, .slice none 0 0, .int .i64 0, .slice none 0 0, .int .i64 (h0).number, .int .i64 (h0).size, .string (h0).root, .int .i64 (h0).taken, .string (h0).takenRoot] (by simp) rfl, hf.blk KB3 (by omega), RowsIn.put RL3 KV3 (by simp) [.slice VX (k + 1 + 1) cX] 3, hf.own O3 (fun y hy => own_ne O3 KV3 (by decide) y hy), hf.toExt he2 (fun y hy e => by have := hRV; have := HgR.out; omega)⟩
          have HW := Lib.hid hw; have RL4 := Lib.hid RL2; have O4H := Lib.hid O4; have KV4 := Lib.hid KV2; have KB4 := Lib.hid KB2
          have hnt : (3 : Nat) = 3 := rfl
          clear hw hown' hnX hfrm hmv L0 KB3 RL3 O3 RL2 O4 KV2 KB2 RL KO KVH KBH rq fq rv fv he he2 hnt
          obtain ⟨rv, fv⟩ := KV3.rules
          clear KV3
          go_upto_region 34 with fail
          rw [← HW.out]
          clear rv fv HW
          go_wp2_with fail
          go_roundw
          case rel => (repeat apply Exists.intro); exact ⟨⟨k + 1, _, by omega, by go_num, by (rw [← HN.out]) <;> rfl, O4H.out, KV4.out, KB4.out, RL4.out, he4⟩, rfl⟩
          case measure => simp [intOf]; omega
      obtain ⟨x, hx⟩ : ∃ x, F2[k]? = some x := ⟨F2[k], List.getElem?_eq_getElem hlt⟩
      obtain ⟨b, off, rfl, hb, c0⟩ := texts_cell (Reads.of_own (c := a2) (RL.out.tail.tail.tail.tail.head)) hx
      have hxs := FS2.out x (List.mem_of_getElem? hx)
      have X := Lib.hid hx
      clear hx
      go_wp2_with fail
      refine (specReadReceipt_any x _ hxs).mono ?_
      rintro e w1 ⟨rfl, h1⟩
      replace KV := KV.ext h1; replace KB := KB.ext h1; replace RL := Lib.hid (RowsIn.ext RL.out h1); replace KO := Lib.hid (ownsRow_ext KO.out h1); replace he := he.next h1
      clear h1 c0 p0 p1 p2
      obtain ⟨ok, hok⟩ : ∃ ok, ok = rrSpec x := ⟨_, rfl⟩
      obtain ⟨d, hd⟩ : ∃ d, d = (fun x => rrOutQ (rrSpec x) (rrD x)) x := ⟨_, rfl⟩
      have hend : rrRes (rrSpec x) (rrD x) = .returned (.tuple #[.agg d.cells.toArray, .bool ok]) := by rw [hd, hok]; rfl
      rw [hend]
      have HD := Lib.hid hd; have HOK := Lib.hid hok
      obtain ⟨hkl, hkd⟩ := List.getElem?_eq_some_iff.1 X.out
      have TK := Lib.hid (show F2.take (k + 1) = F2.take k ++ [x] by rw [List.take_succ_eq_append_getElem hkl, hkd])
      have e2 : (((F2.take k).map (fun x => rrOutQ (rrSpec x) (rrD x))).flatMap ReceiptD.cells) ++ ReceiptD.cells d = (((F2.take (k + 1)).map (fun x => rrOutQ (rrSpec x) (rrD x))).flatMap ReceiptD.cells) := by rw [TK.out, HD.out]; simp
      have E2 := Lib.hid e2
      clear hend hd hok hkl hkd e2
      simp only [ReceiptD.cells]
      go_upto_region 27 with fail
      have kd := Blk.new w1 77 #[.string d.reader, .string d.topic, .int .i64 d.index]
      have hx1 := Ext.new (Below.refl w1.heap.size w1) (.cells #[.string d.reader, .string d.topic, .int .i64 d.index] 77)
      replace KV := KV.ext hx1; replace KB := KB.ext hx1; replace RL := Lib.hid (RowsIn.ext RL.out hx1); replace KO := Lib.hid (ownsRow_ext KO.out hx1); replace he := he.next hx1
      obtain ⟨qd, hq⟩ : ∃ qd, qd = w1.heap.size := ⟨_, rfl⟩
      rw [← hq] at kd
      rw [← hq]
      clear hq hx1
      obtain ⟨w2, hw2⟩ : ∃ w2, w2 = w1.alloc (.cells #[.string d.reader, .string d.topic, .int .i64 d.index] 77) := ⟨_, rfl⟩
      rw [← hw2] at kd he KO RL KB KV
      rw [← hw2]
      clear hw2
      cases ok
      · rcases Nat.eq_zero_or_pos cc with z0 | z0
        · have z1 : ((cc : Int) == 0) = true := beq_iff_eq.2 (by omega)
          have CZ := Lib.hid (show cB k1 3 rrSpec (F2.take k) = 0 from by rw [← HC.out, z0])
          clear z0
          have HN := Lib.hid (show ((3 : Nat) : Int) = ((cB k1 3 rrSpec (F2.take (k + 1)) : Nat) : Int) by rw [TK.out]; rw [cB_bad HOK.out.symm, if_pos CZ.out])
          obtain ⟨rq, fq⟩ := kd.rules
          obtain ⟨rv, fv⟩ := KV.rules
          have hws := he.size
          have KVH := Lib.hid KV; have KBH := Lib.hid KB
          clear KV KB
          go_wp2_with (at_builtin; refine wpList_append_moved _ rfl _ _ 52 rfl w.heap.size 77 iR (.agg #[.string ⟨#[]⟩, .string ⟨#[]⟩, .int .i64 0]) 3 40 Tryz.underlying52 hiR hz0R hz1R hz2R rfl (by decide) _ _ _ rfl (World.ownsRow.alloc (w := w2) KO.out _) ⟨w2.heap.size, 0, none⟩ 1 1 (#[.string d.reader, .string d.topic, .int .i64 d.index] : Array Value).toList rfl rfl ?hRa1 ?hRa2 ?hRa3 ?hRa4 ?hRa5 ?_)
          case hRa2 => exact ⟨rfl, rfl, rfl⟩
          case hRa3 => unfold maxLen; omega
          case hRa4 => omega
          case hRa5 => (try simp); omega
          intro v' w3 hown' hfrm hmv
          obtain ⟨VX, cX, rfl, hnX⟩ := ownsRow_form hown'
          have L0 := Lib.hid KO.out.lt
          have he2 : Ext w w3 := hfrm.toExt (he.new _) (fun y hy e => by have := (L0.out _ e).1; omega)
          have KV3 := hfrm.blk (KVH.out.alloc _) (fun e => own_ne KO.out KVH.out (by decide) _ e rfl)
          have KB3 := hfrm.blk (KBH.out.alloc _) (fun e => own_ne KO.out KBH.out (by decide) _ e rfl)
          have RL3 := RowsIn.frm (RowsIn.ext RL.out (Ext.new (Below.refl w2.heap.size w2) (.cells #[.string d.reader, .string d.topic, .int .i64 d.index] 77))) (World.ownsRow.alloc (w := w2) KO.out (.cells #[.string d.reader, .string d.topic, .int .i64 d.index] 77)) hfrm (by simp)
          have O3 : w3.ownsRow w.heap.size 77 3 (.slice VX (k + 1) cX) (k + 1) (((F2.take (k + 1)).map (fun x => rrOutQ (rrSpec x) (rrD x))).flatMap ReceiptD.cells) := by rw [← E2.out, List.map_take]; exact hown'
          obtain ⟨w4, hw, KV2, KB2, RL2, O4, he4⟩ : ∃ w4, w4 = w3.setCell ⟨gV, 2, none⟩ (.slice VX (k + 1) cX) ∧ Blk w4 gV 59 #[.int .i64 n, .slice VE es.length cE, .slice VX (k + 1) cX, .slice (some ⟨q, 0, none⟩) 1 1, .int .i64 0, .slice none 0 0, .int .i64 0, .slice none 0 0, .int .i64 (h0).number, .int .i64 (h0).size, .string (h0).root, .int .i64 (h0).taken, .string (h0).takenRoot] ∧ Blk w4 gR 59 #[.int .i64 0, .slice none 0 0, .slice none 0 0, .slice none 0 0, .int .i64 0, .slice none 0 0, .int .i64 0, .slice none 0 0, .int .i64 0, .int .i64 0, .string ⟨#[]⟩, .int .i64 0, .string ⟨#[]⟩] ∧ RowsIn w.heap.size w4 [(112, 3, .slice V dm.length cv, dm.length, dm.flatMap WriteD.cells), (22, 1, .slice (some ⟨bp, 0, none⟩) 3 cp, 3, [.slice A0 F0.length a0, .slice A1 F1.length a1, .slice (some ⟨b, off, none⟩) F2.length a2]), (9, 1, .slice A0 F0.length a0, F0.length, F0.flatMap sone), (9, 1, .slice A1 F1.length a1, F1.length, F1.flatMap sone), (9, 1, .slice (some ⟨b, off, none⟩) F2.length a2, F2.length, F2.flatMap sone), (55, 5, .slice (some ⟨q, 0, none⟩) 1 1, 1, [h0].flatMap HeadD.cells), (46, 5, .slice VE es.length cE, es.length, es.flatMap EntryD.cells)] ∧ w4.ownsRow w.heap.size 77 3 (.slice VX (k + 1) cX) (k + 1) (((F2.take (k + 1)).map (fun x => rrOutQ (rrSpec x) (rrD x))).flatMap ReceiptD.cells) ∧ Ext w w4 := by
           have hf := Frm.setCells (Frm.refl (fun b => b = gV) w3) (g := gV) (fun _ => rfl) [.slice VX (k + 1) cX] 2
           exact ⟨_, rfl, KV3.put 2 [.slice VX (k + 1) cX] #[.int .i64 n, .slice VE es.length cE, .slice VX (k + 1) cX, .slice (some ⟨q, 0, none⟩) 1 1, .int .i64 0, .slice none 0 0, .int .i64 0, .slice none 0 0, .int .i64 (h0).number, .int .i64 (h0).size, .string (h0).root, .int .i64 (h0).taken, .string (h0).takenRoot] (by simp) rfl, hf.blk KB3 (by omega), RowsIn.put RL3 KV3 (by simp) [.slice VX (k + 1) cX] 2, hf.own O3 (fun y hy => own_ne O3 KV3 (by decide) y hy), hf.toExt he2 (fun y hy e => by have := hRV; have := HgR.out; omega)⟩
          have HW := Lib.hid hw; have RL4 := Lib.hid RL2; have O4H := Lib.hid O4; have KV4 := Lib.hid KV2; have KB4 := Lib.hid KB2
          have hnt : (3 : Nat) = 3 := rfl
          clear hw hown' hnX hfrm hmv L0 KB3 RL3 O3 RL2 O4 KV2 KB2 RL KO KVH KBH rq fq rv fv he he2 hnt
          obtain ⟨rv, fv⟩ := KV3.rules
          clear KV3
          go_upto_region 25 with fail
          rw [← HW.out]
          clear rv fv HW
          go_wp2_with fail
          go_roundw
          case rel => (repeat apply Exists.intro); exact ⟨⟨k + 1, _, by omega, by go_num, by (rw [← HN.out]) <;> rfl, O4H.out, KV4.out, KB4.out, RL4.out, he4⟩, rfl⟩
          case measure => simp [intOf]; omega
        · have z1 : ((cc : Int) == 0) = false := beq_false_of_ne (by omega)
          have CZ := Lib.hid (show ¬ cB k1 3 rrSpec (F2.take k) = 0 from by rw [← HC.out]; omega)
          clear z0
          have HN := Lib.hid (show ((cc : Nat) : Int) = ((cB k1 3 rrSpec (F2.take (k + 1)) : Nat) : Int) by rw [TK.out]; rw [cB_bad HOK.out.symm, if_neg CZ.out, HC.out])
          obtain ⟨rq, fq⟩ := kd.rules
          obtain ⟨rv, fv⟩ := KV.rules
          have hws := he.size
          have KVH := Lib.hid KV; have KBH := Lib.hid KB
          clear KV KB
          go_wp2_with (at_builtin; refine wpList_append_moved _ rfl _ _ 52 rfl w.heap.size 77 iR (.agg #[.string ⟨#[]⟩, .string ⟨#[]⟩, .int .i64 0]) 3 40 Tryz.underlying52 hiR hz0R hz1R hz2R rfl (by decide) _ _ _ rfl (World.ownsRow.alloc (w := w2) KO.out _) ⟨w2.heap.size, 0, none⟩ 1 1 (#[.string d.reader, .string d.topic, .int .i64 d.index] : Array Value).toList rfl rfl ?hRb1 ?hRb2 ?hRb3 ?hRb4 ?hRb5 ?_)
          case hRb2 => exact ⟨rfl, rfl, rfl⟩
          case hRb3 => unfold maxLen; omega
          case hRb4 => omega
          case hRb5 => (try simp); omega
          intro v' w3 hown' hfrm hmv
          obtain ⟨VX, cX, rfl, hnX⟩ := ownsRow_form hown'
          have L0 := Lib.hid KO.out.lt
          have he2 : Ext w w3 := hfrm.toExt (he.new _) (fun y hy e => by have := (L0.out _ e).1; omega)
          have KV3 := hfrm.blk (KVH.out.alloc _) (fun e => own_ne KO.out KVH.out (by decide) _ e rfl)
          have KB3 := hfrm.blk (KBH.out.alloc _) (fun e => own_ne KO.out KBH.out (by decide) _ e rfl)
          have RL3 := RowsIn.frm (RowsIn.ext RL.out (Ext.new (Below.refl w2.heap.size w2) (.cells #[.string d.reader, .string d.topic, .int .i64 d.index] 77))) (World.ownsRow.alloc (w := w2) KO.out (.cells #[.string d.reader, .string d.topic, .int .i64 d.index] 77)) hfrm (by simp)
          have O3 : w3.ownsRow w.heap.size 77 3 (.slice VX (k + 1) cX) (k + 1) (((F2.take (k + 1)).map (fun x => rrOutQ (rrSpec x) (rrD x))).flatMap ReceiptD.cells) := by rw [← E2.out, List.map_take]; exact hown'
          obtain ⟨w4, hw, KV2, KB2, RL2, O4, he4⟩ : ∃ w4, w4 = w3.setCell ⟨gV, 2, none⟩ (.slice VX (k + 1) cX) ∧ Blk w4 gV 59 #[.int .i64 n, .slice VE es.length cE, .slice VX (k + 1) cX, .slice (some ⟨q, 0, none⟩) 1 1, .int .i64 0, .slice none 0 0, .int .i64 0, .slice none 0 0, .int .i64 (h0).number, .int .i64 (h0).size, .string (h0).root, .int .i64 (h0).taken, .string (h0).takenRoot] ∧ Blk w4 gR 59 #[.int .i64 0, .slice none 0 0, .slice none 0 0, .slice none 0 0, .int .i64 0, .slice none 0 0, .int .i64 0, .slice none 0 0, .int .i64 0, .int .i64 0, .string ⟨#[]⟩, .int .i64 0, .string ⟨#[]⟩] ∧ RowsIn w.heap.size w4 [(112, 3, .slice V dm.length cv, dm.length, dm.flatMap WriteD.cells), (22, 1, .slice (some ⟨bp, 0, none⟩) 3 cp, 3, [.slice A0 F0.length a0, .slice A1 F1.length a1, .slice (some ⟨b, off, none⟩) F2.length a2]), (9, 1, .slice A0 F0.length a0, F0.length, F0.flatMap sone), (9, 1, .slice A1 F1.length a1, F1.length, F1.flatMap sone), (9, 1, .slice (some ⟨b, off, none⟩) F2.length a2, F2.length, F2.flatMap sone), (55, 5, .slice (some ⟨q, 0, none⟩) 1 1, 1, [h0].flatMap HeadD.cells), (46, 5, .slice VE es.length cE, es.length, es.flatMap EntryD.cells)] ∧ w4.ownsRow w.heap.size 77 3 (.slice VX (k + 1) cX) (k + 1) (((F2.take (k + 1)).map (fun x => rrOutQ (rrSpec x) (rrD x))).flatMap ReceiptD.cells) ∧ Ext w w4 := by
           have hf := Frm.setCells (Frm.refl (fun b => b = gV) w3) (g := gV) (fun _ => rfl) [.slice VX (k + 1) cX] 2
           exact ⟨_, rfl, KV3.put 2 [.slice VX (k + 1) cX] #[.int .i64 n, .slice VE es.length cE, .slice VX (k + 1) cX, .slice (some ⟨q, 0, none⟩) 1 1, .int .i64 0, .slice none 0 0, .int .i64 0, .slice none 0 0, .int .i64 (h0).number, .int .i64 (h0).size, .string (h0).root, .int .i64 (h0).taken, .string (h0).takenRoot] (by simp) rfl, hf.blk KB3 (by omega), RowsIn.put RL3 KV3 (by simp) [.slice VX (k + 1) cX] 2, hf.own O3 (fun y hy => own_ne O3 KV3 (by decide) y hy), hf.toExt he2 (fun y hy e => by have := hRV; have := HgR.out; omega)⟩
          have HW := Lib.hid hw; have RL4 := Lib.hid RL2; have O4H := Lib.hid O4; have KV4 := Lib.hid KV2; have KB4 := Lib.hid KB2
          have hnt : (3 : Nat) = 3 := rfl
          clear hw hown' hnX hfrm hmv L0 KB3 RL3 O3 RL2 O4 KV2 KB2 RL KO KVH KBH rq fq rv fv he he2 hnt
          obtain ⟨rv, fv⟩ := KV3.rules
          clear KV3
          go_upto_region 25 with fail
          rw [← HW.out]
          clear rv fv HW
          go_wp2_with fail
          go_roundw
          case rel => (repeat apply Exists.intro); exact ⟨⟨k + 1, _, by omega, by go_num, by (rw [← HN.out]) <;> rfl, O4H.out, KV4.out, KB4.out, RL4.out, he4⟩, rfl⟩
          case measure => simp [intOf]; omega
      · skip
        have HN := Lib.hid (show ((cc : Nat) : Int) = ((cB k1 3 rrSpec (F2.take (k + 1)) : Nat) : Int) by rw [TK.out]; rw [cB_good HOK.out.symm, HC.out])
        obtain ⟨rq, fq⟩ := kd.rules
        obtain ⟨rv, fv⟩ := KV.rules
        have hws := he.size
        have KVH := Lib.hid KV; have KBH := Lib.hid KB
        clear KV KB
        go_wp2_with (at_builtin; refine wpList_append_moved _ rfl _ _ 52 rfl w.heap.size 77 iR (.agg #[.string ⟨#[]⟩, .string ⟨#[]⟩, .int .i64 0]) 3 40 Tryz.underlying52 hiR hz0R hz1R hz2R rfl (by decide) _ _ _ rfl (World.ownsRow.alloc (w := w2) KO.out _) ⟨w2.heap.size, 0, none⟩ 1 1 (#[.string d.reader, .string d.topic, .int .i64 d.index] : Array Value).toList rfl rfl ?hRc1 ?hRc2 ?hRc3 ?hRc4 ?hRc5 ?_)
        case hRc2 => exact ⟨rfl, rfl, rfl⟩
        case hRc3 => unfold maxLen; omega
        case hRc4 => omega
        case hRc5 => (try simp); omega
        intro v' w3 hown' hfrm hmv
        obtain ⟨VX, cX, rfl, hnX⟩ := ownsRow_form hown'
        have L0 := Lib.hid KO.out.lt
        have he2 : Ext w w3 := hfrm.toExt (he.new _) (fun y hy e => by have := (L0.out _ e).1; omega)
        have KV3 := hfrm.blk (KVH.out.alloc _) (fun e => own_ne KO.out KVH.out (by decide) _ e rfl)
        have KB3 := hfrm.blk (KBH.out.alloc _) (fun e => own_ne KO.out KBH.out (by decide) _ e rfl)
        have RL3 := RowsIn.frm (RowsIn.ext RL.out (Ext.new (Below.refl w2.heap.size w2) (.cells #[.string d.reader, .string d.topic, .int .i64 d.index] 77))) (World.ownsRow.alloc (w := w2) KO.out (.cells #[.string d.reader, .string d.topic, .int .i64 d.index] 77)) hfrm (by simp)
        have O3 : w3.ownsRow w.heap.size 77 3 (.slice VX (k + 1) cX) (k + 1) (((F2.take (k + 1)).map (fun x => rrOutQ (rrSpec x) (rrD x))).flatMap ReceiptD.cells) := by rw [← E2.out, List.map_take]; exact hown'
        obtain ⟨w4, hw, KV2, KB2, RL2, O4, he4⟩ : ∃ w4, w4 = w3.setCell ⟨gV, 2, none⟩ (.slice VX (k + 1) cX) ∧ Blk w4 gV 59 #[.int .i64 n, .slice VE es.length cE, .slice VX (k + 1) cX, .slice (some ⟨q, 0, none⟩) 1 1, .int .i64 0, .slice none 0 0, .int .i64 0, .slice none 0 0, .int .i64 (h0).number, .int .i64 (h0).size, .string (h0).root, .int .i64 (h0).taken, .string (h0).takenRoot] ∧ Blk w4 gR 59 #[.int .i64 0, .slice none 0 0, .slice none 0 0, .slice none 0 0, .int .i64 0, .slice none 0 0, .int .i64 0, .slice none 0 0, .int .i64 0, .int .i64 0, .string ⟨#[]⟩, .int .i64 0, .string ⟨#[]⟩] ∧ RowsIn w.heap.size w4 [(112, 3, .slice V dm.length cv, dm.length, dm.flatMap WriteD.cells), (22, 1, .slice (some ⟨bp, 0, none⟩) 3 cp, 3, [.slice A0 F0.length a0, .slice A1 F1.length a1, .slice (some ⟨b, off, none⟩) F2.length a2]), (9, 1, .slice A0 F0.length a0, F0.length, F0.flatMap sone), (9, 1, .slice A1 F1.length a1, F1.length, F1.flatMap sone), (9, 1, .slice (some ⟨b, off, none⟩) F2.length a2, F2.length, F2.flatMap sone), (55, 5, .slice (some ⟨q, 0, none⟩) 1 1, 1, [h0].flatMap HeadD.cells), (46, 5, .slice VE es.length cE, es.length, es.flatMap EntryD.cells)] ∧ w4.ownsRow w.heap.size 77 3 (.slice VX (k + 1) cX) (k + 1) (((F2.take (k + 1)).map (fun x => rrOutQ (rrSpec x) (rrD x))).flatMap ReceiptD.cells) ∧ Ext w w4 := by
         have hf := Frm.setCells (Frm.refl (fun b => b = gV) w3) (g := gV) (fun _ => rfl) [.slice VX (k + 1) cX] 2
         exact ⟨_, rfl, KV3.put 2 [.slice VX (k + 1) cX] #[.int .i64 n, .slice VE es.length cE, .slice VX (k + 1) cX, .slice (some ⟨q, 0, none⟩) 1 1, .int .i64 0, .slice none 0 0, .int .i64 0, .slice none 0 0, .int .i64 (h0).number, .int .i64 (h0).size, .string (h0).root, .int .i64 (h0).taken, .string (h0).takenRoot] (by simp) rfl, hf.blk KB3 (by omega), RowsIn.put RL3 KV3 (by simp) [.slice VX (k + 1) cX] 2, hf.own O3 (fun y hy => own_ne O3 KV3 (by decide) y hy), hf.toExt he2 (fun y hy e => by have := hRV; have := HgR.out; omega)⟩
        have HW := Lib.hid hw; have RL4 := Lib.hid RL2; have O4H := Lib.hid O4; have KV4 := Lib.hid KV2; have KB4 := Lib.hid KB2
        have hnt : (3 : Nat) = 3 := rfl
        clear hw hown' hnX hfrm hmv L0 KB3 RL3 O3 RL2 O4 KV2 KB2 RL KO KVH KBH rq fq rv fv he he2 hnt
        obtain ⟨rv, fv⟩ := KV3.rules
        clear KV3
        go_upto_region 25 with fail
        rw [← HW.out]
        clear rv fv HW
        go_wp2_with fail
        go_roundw
        case rel => (repeat apply Exists.intro); exact ⟨⟨k + 1, _, by omega, by go_num, by (rw [← HN.out]) <;> rfl, O4H.out, KV4.out, KB4.out, RL4.out, he4⟩, rfl⟩
        case measure => simp [intOf]; omega
    obtain ⟨x, hx⟩ : ∃ x, F0[k]? = some x := ⟨F0[k], List.getElem?_eq_getElem hlt⟩
    obtain ⟨b, off, rfl, hb, c0⟩ := texts_cell (Reads.of_own (c := a0) (RL.out.tail.tail.head)) hx
    have hxs := FS0.out x (List.mem_of_getElem? hx)
    have X := Lib.hid hx
    clear hx
    go_wp2_with fail
    refine (specReadLeaf_any x _ hxs).mono ?_
    rintro e w1 ⟨rfl, h1⟩
    replace KV := KV.ext h1; replace KB := KB.ext h1; replace RL := Lib.hid (RowsIn.ext RL.out h1); replace KO := Lib.hid (ownsRow_ext KO.out h1); replace he := he.next h1
    clear h1 c0 p0 p1 p2
    obtain ⟨ok, hok⟩ : ∃ ok, ok = rlSpec x := ⟨_, rfl⟩
    obtain ⟨d, hd⟩ : ∃ d, d = (fun x => rlOut (rlSpec x) (rlD x)) x := ⟨_, rfl⟩
    have hend : rlRes (rlSpec x) (rlD x) = .returned (.tuple #[.agg d.cells.toArray, .bool ok]) := by rw [hd, hok]; rfl
    rw [hend]
    have HD := Lib.hid hd; have HOK := Lib.hid hok
    obtain ⟨hkl, hkd⟩ := List.getElem?_eq_some_iff.1 X.out
    have TK := Lib.hid (show F0.take (k + 1) = F0.take k ++ [x] by rw [List.take_succ_eq_append_getElem hkl, hkd])
    have e2 : (((F0.take k).map (fun x => rlOut (rlSpec x) (rlD x))).flatMap EntryD.cells) ++ EntryD.cells d = (((F0.take (k + 1)).map (fun x => rlOut (rlSpec x) (rlD x))).flatMap EntryD.cells) := by rw [TK.out, HD.out]; simp
    have E2 := Lib.hid e2
    clear hend hd hok hkl hkd e2
    simp only [EntryD.cells]
    go_upto_region 18 with fail
    have kd := Blk.new w1 46 #[.string d.topic, .int .i64 d.index, .int .i64 d.time, .string d.key, .string d.body]
    have hx1 := Ext.new (Below.refl w1.heap.size w1) (.cells #[.string d.topic, .int .i64 d.index, .int .i64 d.time, .string d.key, .string d.body] 46)
    replace KV := KV.ext hx1; replace KB := KB.ext hx1; replace RL := Lib.hid (RowsIn.ext RL.out hx1); replace KO := Lib.hid (ownsRow_ext KO.out hx1); replace he := he.next hx1
    obtain ⟨qd, hq⟩ : ∃ qd, qd = w1.heap.size := ⟨_, rfl⟩
    rw [← hq] at kd
    rw [← hq]
    clear hq hx1
    obtain ⟨w2, hw2⟩ : ∃ w2, w2 = w1.alloc (.cells #[.string d.topic, .int .i64 d.index, .int .i64 d.time, .string d.key, .string d.body] 46) := ⟨_, rfl⟩
    rw [← hw2] at kd he KO RL KB KV
    rw [← hw2]
    clear hw2
    cases ok
    · skip
      have HN := Lib.hid (show ((2 : Nat) : Int) = ((cB 0 2 rlSpec (F0.take (k + 1)) : Nat) : Int) by rw [TK.out]; rw [cB_first HOK.out.symm])
      obtain ⟨rq, fq⟩ := kd.rules
      obtain ⟨rv, fv⟩ := KV.rules
      have hws := he.size
      have KVH := Lib.hid KV; have KBH := Lib.hid KB
      clear KV KB
      go_wp2_with (at_builtin; refine wpList_append_moved _ rfl _ _ 49 rfl w.heap.size 46 iE (.agg #[.string ⟨#[]⟩, .int .i64 0, .int .i64 0, .string ⟨#[]⟩, .string ⟨#[]⟩]) 5 64 Tryz.underlying49 hiE hz0E hz1E hz2E rfl (by decide) _ _ _ rfl (World.ownsRow.alloc (w := w2) KO.out _) ⟨w2.heap.size, 0, none⟩ 1 1 (#[.string d.topic, .int .i64 d.index, .int .i64 d.time, .string d.key, .string d.body] : Array Value).toList rfl rfl ?hEa1 ?hEa2 ?hEa3 ?hEa4 ?hEa5 ?_)
      case hEa2 => exact ⟨rfl, rfl, rfl, rfl, rfl⟩
      case hEa3 => unfold maxLen; omega
      case hEa4 => omega
      case hEa5 => (try simp); omega
      intro v' w3 hown' hfrm hmv
      obtain ⟨VX, cX, rfl, hnX⟩ := ownsRow_form hown'
      have L0 := Lib.hid KO.out.lt
      have he2 : Ext w w3 := hfrm.toExt (he.new _) (fun y hy e => by have := (L0.out _ e).1; omega)
      have KV3 := hfrm.blk (KVH.out.alloc _) (fun e => own_ne KO.out KVH.out (by decide) _ e rfl)
      have KB3 := hfrm.blk (KBH.out.alloc _) (fun e => own_ne KO.out KBH.out (by decide) _ e rfl)
      have RL3 := RowsIn.frm (RowsIn.ext RL.out (Ext.new (Below.refl w2.heap.size w2) (.cells #[.string d.topic, .int .i64 d.index, .int .i64 d.time, .string d.key, .string d.body] 46))) (World.ownsRow.alloc (w := w2) KO.out (.cells #[.string d.topic, .int .i64 d.index, .int .i64 d.time, .string d.key, .string d.body] 46)) hfrm (by simp)
      have O3 : w3.ownsRow w.heap.size 46 5 (.slice VX (k + 1) cX) (k + 1) (((F0.take (k + 1)).map (fun x => rlOut (rlSpec x) (rlD x))).flatMap EntryD.cells) := by rw [← E2.out, List.map_take]; exact hown'
      obtain ⟨w4, hw, KV2, KB2, RL2, O4, he4⟩ : ∃ w4, w4 = w3.setCell ⟨gV, 1, none⟩ (.slice VX (k + 1) cX) ∧ Blk w4 gV 59 #[.int .i64 n, .slice VX (k + 1) cX, .slice none 0 0, .slice (some ⟨q, 0, none⟩) 1 1, .int .i64 0, .slice none 0 0, .int .i64 0, .slice none 0 0, .int .i64 (h0).number, .int .i64 (h0).size, .string (h0).root, .int .i64 (h0).taken, .string (h0).takenRoot] ∧ Blk w4 gR 59 #[.int .i64 0, .slice none 0 0, .slice none 0 0, .slice none 0 0, .int .i64 0, .slice none 0 0, .int .i64 0, .slice none 0 0, .int .i64 0, .int .i64 0, .string ⟨#[]⟩, .int .i64 0, .string ⟨#[]⟩] ∧ RowsIn w.heap.size w4 [(112, 3, .slice V dm.length cv, dm.length, dm.flatMap WriteD.cells), (22, 1, .slice (some ⟨bp, 0, none⟩) 3 cp, 3, [.slice (some ⟨b, off, none⟩) F0.length a0, .slice A1 F1.length a1, .slice A2 F2.length a2]), (9, 1, .slice (some ⟨b, off, none⟩) F0.length a0, F0.length, F0.flatMap sone), (9, 1, .slice A1 F1.length a1, F1.length, F1.flatMap sone), (9, 1, .slice A2 F2.length a2, F2.length, F2.flatMap sone), (55, 5, .slice (some ⟨q, 0, none⟩) 1 1, 1, [h0].flatMap HeadD.cells)] ∧ w4.ownsRow w.heap.size 46 5 (.slice VX (k + 1) cX) (k + 1) (((F0.take (k + 1)).map (fun x => rlOut (rlSpec x) (rlD x))).flatMap EntryD.cells) ∧ Ext w w4 := by
       have hf := Frm.setCells (Frm.refl (fun b => b = gV) w3) (g := gV) (fun _ => rfl) [.slice VX (k + 1) cX] 1
       exact ⟨_, rfl, KV3.put 1 [.slice VX (k + 1) cX] #[.int .i64 n, .slice VX (k + 1) cX, .slice none 0 0, .slice (some ⟨q, 0, none⟩) 1 1, .int .i64 0, .slice none 0 0, .int .i64 0, .slice none 0 0, .int .i64 (h0).number, .int .i64 (h0).size, .string (h0).root, .int .i64 (h0).taken, .string (h0).takenRoot] (by simp) rfl, hf.blk KB3 (by omega), RowsIn.put RL3 KV3 (by simp) [.slice VX (k + 1) cX] 1, hf.own O3 (fun y hy => own_ne O3 KV3 (by decide) y hy), hf.toExt he2 (fun y hy e => by have := hRV; have := HgR.out; omega)⟩
      have HW := Lib.hid hw; have RL4 := Lib.hid RL2; have O4H := Lib.hid O4; have KV4 := Lib.hid KV2; have KB4 := Lib.hid KB2
      have hnt : (3 : Nat) = 3 := rfl
      clear hw hown' hnX hfrm hmv L0 KB3 RL3 O3 RL2 O4 KV2 KB2 RL KO KVH KBH rq fq rv fv he he2 hnt
      obtain ⟨rv, fv⟩ := KV3.rules
      clear KV3
      go_upto_region 16 with fail
      rw [← HW.out]
      clear rv fv HW
      go_wp2_with fail
      go_roundw
      case rel => (repeat apply Exists.intro); exact ⟨⟨k + 1, _, by omega, by go_num, by (rw [← HN.out]) <;> rfl, O4H.out, KV4.out, KB4.out, RL4.out, he4⟩, rfl⟩
      case measure => simp [intOf]; omega
    · skip
      have HN := Lib.hid (show ((cc : Nat) : Int) = ((cB 0 2 rlSpec (F0.take (k + 1)) : Nat) : Int) by rw [TK.out]; rw [cB_good HOK.out.symm, HC.out])
      obtain ⟨rq, fq⟩ := kd.rules
      obtain ⟨rv, fv⟩ := KV.rules
      have hws := he.size
      have KVH := Lib.hid KV; have KBH := Lib.hid KB
      clear KV KB
      go_wp2_with (at_builtin; refine wpList_append_moved _ rfl _ _ 49 rfl w.heap.size 46 iE (.agg #[.string ⟨#[]⟩, .int .i64 0, .int .i64 0, .string ⟨#[]⟩, .string ⟨#[]⟩]) 5 64 Tryz.underlying49 hiE hz0E hz1E hz2E rfl (by decide) _ _ _ rfl (World.ownsRow.alloc (w := w2) KO.out _) ⟨w2.heap.size, 0, none⟩ 1 1 (#[.string d.topic, .int .i64 d.index, .int .i64 d.time, .string d.key, .string d.body] : Array Value).toList rfl rfl ?hEb1 ?hEb2 ?hEb3 ?hEb4 ?hEb5 ?_)
      case hEb2 => exact ⟨rfl, rfl, rfl, rfl, rfl⟩
      case hEb3 => unfold maxLen; omega
      case hEb4 => omega
      case hEb5 => (try simp); omega
      intro v' w3 hown' hfrm hmv
      obtain ⟨VX, cX, rfl, hnX⟩ := ownsRow_form hown'
      have L0 := Lib.hid KO.out.lt
      have he2 : Ext w w3 := hfrm.toExt (he.new _) (fun y hy e => by have := (L0.out _ e).1; omega)
      have KV3 := hfrm.blk (KVH.out.alloc _) (fun e => own_ne KO.out KVH.out (by decide) _ e rfl)
      have KB3 := hfrm.blk (KBH.out.alloc _) (fun e => own_ne KO.out KBH.out (by decide) _ e rfl)
      have RL3 := RowsIn.frm (RowsIn.ext RL.out (Ext.new (Below.refl w2.heap.size w2) (.cells #[.string d.topic, .int .i64 d.index, .int .i64 d.time, .string d.key, .string d.body] 46))) (World.ownsRow.alloc (w := w2) KO.out (.cells #[.string d.topic, .int .i64 d.index, .int .i64 d.time, .string d.key, .string d.body] 46)) hfrm (by simp)
      have O3 : w3.ownsRow w.heap.size 46 5 (.slice VX (k + 1) cX) (k + 1) (((F0.take (k + 1)).map (fun x => rlOut (rlSpec x) (rlD x))).flatMap EntryD.cells) := by rw [← E2.out, List.map_take]; exact hown'
      obtain ⟨w4, hw, KV2, KB2, RL2, O4, he4⟩ : ∃ w4, w4 = w3.setCell ⟨gV, 1, none⟩ (.slice VX (k + 1) cX) ∧ Blk w4 gV 59 #[.int .i64 n, .slice VX (k + 1) cX, .slice none 0 0, .slice (some ⟨q, 0, none⟩) 1 1, .int .i64 0, .slice none 0 0, .int .i64 0, .slice none 0 0, .int .i64 (h0).number, .int .i64 (h0).size, .string (h0).root, .int .i64 (h0).taken, .string (h0).takenRoot] ∧ Blk w4 gR 59 #[.int .i64 0, .slice none 0 0, .slice none 0 0, .slice none 0 0, .int .i64 0, .slice none 0 0, .int .i64 0, .slice none 0 0, .int .i64 0, .int .i64 0, .string ⟨#[]⟩, .int .i64 0, .string ⟨#[]⟩] ∧ RowsIn w.heap.size w4 [(112, 3, .slice V dm.length cv, dm.length, dm.flatMap WriteD.cells), (22, 1, .slice (some ⟨bp, 0, none⟩) 3 cp, 3, [.slice (some ⟨b, off, none⟩) F0.length a0, .slice A1 F1.length a1, .slice A2 F2.length a2]), (9, 1, .slice (some ⟨b, off, none⟩) F0.length a0, F0.length, F0.flatMap sone), (9, 1, .slice A1 F1.length a1, F1.length, F1.flatMap sone), (9, 1, .slice A2 F2.length a2, F2.length, F2.flatMap sone), (55, 5, .slice (some ⟨q, 0, none⟩) 1 1, 1, [h0].flatMap HeadD.cells)] ∧ w4.ownsRow w.heap.size 46 5 (.slice VX (k + 1) cX) (k + 1) (((F0.take (k + 1)).map (fun x => rlOut (rlSpec x) (rlD x))).flatMap EntryD.cells) ∧ Ext w w4 := by
       have hf := Frm.setCells (Frm.refl (fun b => b = gV) w3) (g := gV) (fun _ => rfl) [.slice VX (k + 1) cX] 1
       exact ⟨_, rfl, KV3.put 1 [.slice VX (k + 1) cX] #[.int .i64 n, .slice VX (k + 1) cX, .slice none 0 0, .slice (some ⟨q, 0, none⟩) 1 1, .int .i64 0, .slice none 0 0, .int .i64 0, .slice none 0 0, .int .i64 (h0).number, .int .i64 (h0).size, .string (h0).root, .int .i64 (h0).taken, .string (h0).takenRoot] (by simp) rfl, hf.blk KB3 (by omega), RowsIn.put RL3 KV3 (by simp) [.slice VX (k + 1) cX] 1, hf.own O3 (fun y hy => own_ne O3 KV3 (by decide) y hy), hf.toExt he2 (fun y hy e => by have := hRV; have := HgR.out; omega)⟩
      have HW := Lib.hid hw; have RL4 := Lib.hid RL2; have O4H := Lib.hid O4; have KV4 := Lib.hid KV2; have KB4 := Lib.hid KB2
      have hnt : (3 : Nat) = 3 := rfl
      clear hw hown' hnX hfrm hmv L0 KB3 RL3 O3 RL2 O4 KV2 KB2 RL KO KVH KBH rq fq rv fv he he2 hnt
      obtain ⟨rv, fv⟩ := KV3.rules
      clear KV3
      go_upto_region 16 with fail
      rw [← HW.out]
      clear rv fv HW
      go_wp2_with fail
      go_roundw
      case rel => (repeat apply Exists.intro); exact ⟨⟨k + 1, _, by omega, by go_num, by (rw [← HN.out]) <;> rfl, O4H.out, KV4.out, KB4.out, RL4.out, he4⟩, rfl⟩
      case measure => simp [intOf]; omega
  have hlt' : k < l.length := by have := HL3.out; omega
  obtain ⟨x, hx⟩ : ∃ x, l[k]? = some x := ⟨l[k], List.getElem?_eq_getElem hlt'⟩
  obtain ⟨b, off, rfl, hb, cw⟩ := texts_cell HR.out hx
  have CW := Lib.hid cw
  have c0 := (he.cell (p := ⟨b, off + k, none⟩) hb).trans cw
  have hbr := Nat.lt_of_lt_of_le hb he.size
  clear cw
  have hxs := Hsz.out x (List.mem_of_getElem? hx)
  have X := Lib.hid hx
  clear hx
  obtain ⟨ac, af⟩ := KA.rules
  go_wp2_with fail
  refine (specUnframe_any x _ hxs).mono ?_
  rintro e w6 ⟨u, rfl, hu, h1⟩
  have FX := Lib.hid (show filesOf l k = (unf x).1 by rw [filesOf, List.getD_eq_getElem?_getD, X.out]; rfl)
  have hu' : RowT w.heap.size w6 u (filesOf l k) := by
   rw [FX.out]
   exact ownsRow_base (RowT.of hu rfl (by simp [svals, List.map_eq_flatMap]; rfl)) he.size
  obtain ⟨U, cu, rfl, _⟩ := ownsRow_form hu
  replace KA := KA.ext h1; replace KB := KB.ext h1; replace KV := KV.ext h1
  replace KO := Lib.hid (ownsRow_ext KO.out h1); replace OP := Lib.hid (ownsRow_ext OP.out h1); replace OH := Lib.hid (ownsRow_ext OH.out h1)
  replace he := he.next h1
  have c6 := (he.cell (p := ⟨b, off + k, none⟩) hb).trans CW.out
  have RH := Lib.hid (fun j hj => RowT.ext (Hrows.out j hj) h1)
  clear h1 c0 Hrows hu ac af
  have DM := Lib.hid (show dmgs 0 (l.take (k + 1)) = dmgs 0 (l.take k) ++ dmg1 k x by
   obtain ⟨hkl, hkd⟩ := List.getElem?_eq_some_iff.1 X.out
   rw [List.take_succ_eq_append_getElem hkl, hkd, dmgs_append, List.length_take, Nat.zero_add, Nat.min_eq_left (Nat.le_of_lt hkl)])
  have D1 := Lib.hid (show dmg1 k x = if (unf x).2 < x.size then [(k, (unf x).2)] else [] from rfl)
  have ulen : (unf x).1.length ≤ 600 := unf_len x
  obtain ⟨p, hp⟩ : ∃ p, p = (unf x).2 := ⟨_, rfl⟩
  obtain ⟨m, hm⟩ : ∃ m, m = (unf x).1.length := ⟨_, rfl⟩
  rw [← hp] at D1
  rw [← hp]
  rw [← hm]
  rw [← hm] at hu' ulen
  clear hp hm
  have UV := Lib.hid hu'
  clear hu'
  have KL := Lib.hid (show (dmgW (dmgs 0 (l.take k))).length ≤ 3 from by
   have := dmgs_len (l.take k) 0
   rw [List.length_take] at this
   simp only [dmgW, List.length_map]
   omega)
  obtain ⟨d0, hd0⟩ : ∃ d0, d0 = dmgW (dmgs 0 (l.take k)) := ⟨_, rfl⟩
  rw [← hd0] at KO KL hnc
  rw [← hd0]
  have D0 := Lib.hid hd0
  clear hd0
  have hws := he.size
  have KAH := Lib.hid KA; have KBH := Lib.hid KB; have KVH := Lib.hid KV
  clear KA KB KV
  go_wp2_with (at_builtin; refine wpList_append_moved _ rfl _ _ 108 rfl w.heap.size 22 i1 (.slice none 0 0) 1 24 Tryz.underlying108 hj hy0 hy1 hy2 rfl (by decide) _ _ _ rfl (World.ownsRow.alloc (w := w6) OP.out _) ⟨w6.heap.size, 0, none⟩ 1 1 (#[.slice U m cu] : Array Value).toList rfl rfl ?c1 ?c2 ?c3 ?c4 ?c5 ?_)
  case c2 => rfl
  case c3 => unfold maxLen; omega
  case c4 => omega
  case c5 => simp; omega
  intro v' w7 hown' hfrm hmv
  have L0 := Lib.hid OP.out.lt
  have he7 : Ext w w7 := hfrm.toExt (he.new _) (fun y hy e => by have := (L0.out _ e).1; omega)
  have KA := hfrm.blk (KAH.out.alloc _) (fun e => own_ne OP.out KAH.out (by decide) _ e rfl)
  have KB := hfrm.blk (KBH.out.alloc _) (fun e => own_ne OP.out KBH.out (by decide) _ e rfl)
  have KV := hfrm.blk (KVH.out.alloc _) (fun e => own_ne OP.out KVH.out (by decide) _ e rfl)
  have RH7 := Lib.hid (fun j hj => (show RowT w.heap.size w7 (vs.getD j undef) (filesOf l j) from hfrm.own (World.ownsRow.alloc (w := w6) (RH.out j hj) _) (fun y hy e2 => own_apart (RH.out j hj) OP.out (by decide) y hy e2)))
  have UV7 := Lib.hid (show RowT w.heap.size w7 (.slice U m cu) (filesOf l k) from hfrm.own (World.ownsRow.alloc (w := w6) UV.out _) (fun y hy e2 => own_apart UV.out OP.out (by decide) y hy e2))
  have OH7 := Lib.hid (hfrm.own (World.ownsRow.alloc (w := w6) OH.out _) (fun y hy e2 => own_apart OH.out OP.out (by decide) y hy e2))
  have KO7 := Lib.hid (hfrm.own (World.ownsRow.alloc (w := w6) KO.out _) (fun y hy e2 => own_apart KO.out OP.out (by decide) y hy e2))
  have R8 := Lib.hid (show ∀ j, j < k + 1 → RowT w.heap.size w7 ((vs ++ [Value.slice U m cu]).getD j undef) (filesOf l j) from fun j hj => by
   have hl := Hvs.out
   by_cases hjk : j = k
   · subst hjk
     rw [List.getD_eq_getElem?_getD, List.getElem?_append_right (by omega), hl, Nat.sub_self]
     exact UV7.out
   · rw [List.getD_eq_getElem?_getD, List.getElem?_append_left (by omega), ← List.getD_eq_getElem?_getD]
     exact RH7.out j (by omega))
  have O10 := Lib.hid (show w7.ownsRow w.heap.size 22 1 v' (k + 1) (vs ++ [Value.slice U m cu]) from hown')
  have VL := Lib.hid (show (vs ++ [Value.slice U m cu]).length = k + 1 by rw [List.length_append, Hvs.out]; rfl)
  have c7 : w7.cell? ⟨b, off + k, none⟩ = some (.string x) := (he7.cell (p := ⟨b, off + k, none⟩) hb).trans CW.out
  clear hown' hfrm hmv L0 RH UV OH KO KAH KBH KVH OP c6 he hws
  have he := he7
  clear he7
  obtain ⟨ac, af⟩ := KA.rules
  obtain ⟨vs2, hvs2⟩ : ∃ vs2, vs2 = vs ++ [Value.slice U m cu] := ⟨_, rfl⟩
  rw [← hvs2] at R8 O10 VL
  clear hvs2 RH7 UV7
  by_cases hps : p < x.size
  · have DN := Lib.hid (show dmgW (dmgs 0 (l.take (k + 1))) = d0 ++ [⟨(k : Int), (p : Int), ⟨#[]⟩⟩] by rw [DM.out, dmgW_append, D0.out, D1.out, if_pos hps]; rfl)
    have hws := he.size
    have kl := KL.out
    have KAH := Lib.hid KA; have KBH := Lib.hid KB; have KVH := Lib.hid KV
    clear KA KB KV
    go_wp2_with (at_builtin; refine wpList_append_moved _ rfl _ _ 67 rfl w.heap.size 112 i0 (.agg #[.int .i64 0, .int .i64 0, .string ⟨#[]⟩]) 3 32 Tryz.underlying67 hi hz0 hz1 hz2 rfl (by decide) _ _ _ rfl (World.ownsRow.alloc (w := w7) KO7.out _) ⟨w7.heap.size, 0, none⟩ 1 1 (#[.int .i64 k, .int .i64 p, .string ⟨#[]⟩] : Array Value).toList rfl rfl ?d1 ?d2 ?d3 ?d4 ?d5 ?_)
    case d2 => exact ⟨rfl, rfl, rfl⟩
    case d3 => unfold maxLen; omega
    case d4 => omega
    case d5 => simp; omega
    intro v2 w8 hown' hfrm hmv
    have L0 := Lib.hid KO7.out.lt
    have he2 : Ext w w8 := hfrm.toExt (he.new _) (fun y hy e => by have := (L0.out _ e).1; omega)
    have KA8 := Lib.hid (hfrm.blk (KAH.out.alloc _) (fun e => own_ne KO7.out KAH.out (by decide) _ e rfl))
    have KB8 := Lib.hid (hfrm.blk (KBH.out.alloc _) (fun e => own_ne KO7.out KBH.out (by decide) _ e rfl))
    have KV8 := Lib.hid (hfrm.blk (KVH.out.alloc _) (fun e => own_ne KO7.out KVH.out (by decide) _ e rfl))
    have R9 := Lib.hid (fun j hj => (show RowT w.heap.size w8 (vs2.getD j undef) (filesOf l j) from hfrm.own (World.ownsRow.alloc (w := w7) (R8.out j hj) _) (fun y hy e2 => own_apart (R8.out j hj) KO7.out (by decide) y hy e2)))
    have O10b := Lib.hid (hfrm.own (World.ownsRow.alloc (w := w7) O10.out _) (fun y hy e2 => own_apart O10.out KO7.out (by decide) y hy e2))
    have OH8 := Lib.hid (hfrm.own (World.ownsRow.alloc (w := w7) OH7.out _) (fun y hy e2 => own_apart OH7.out KO7.out (by decide) y hy e2))
    have KO8 := Lib.hid (show w8.ownsRow w.heap.size 112 3 v2 (dmgW (dmgs 0 (l.take (k + 1)))).length ((dmgW (dmgs 0 (l.take (k + 1)))).flatMap WriteD.cells) by rw [DN.out, List.length_append, List.flatMap_append]; simpa [WriteD.cells] using hown')
    clear hown' hfrm hmv L0 KO7 OH7 O10 R8 ac af c7
    go_wp2_with fail
    go_roundw
    case rel => exact ⟨k + 1, vs2, by omega, by go_num, VL.out, R9.out, O10b.out, KO8.out, OH8.out, KA8.out, KB8.out, KV8.out, he2⟩
    case measure => simp [intOf]; omega
  · have DN := Lib.hid (show dmgW (dmgs 0 (l.take (k + 1))) = d0 by rw [DM.out, dmgW_append, D0.out, D1.out, if_neg hps]; exact List.append_nil _)
    have KO8 := Lib.hid (show w7.ownsRow w.heap.size 112 3 (.slice V d0.length cv) (dmgW (dmgs 0 (l.take (k + 1)))).length ((dmgW (dmgs 0 (l.take (k + 1)))).flatMap WriteD.cells) by rw [DN.out]; exact KO7.out)
    have KAH := Lib.hid KA; have KBH := Lib.hid KB; have KVH := Lib.hid KV
    clear KO7 KA KB KV
    go_wp2_with fail
    go_roundw
    case rel => exact ⟨k + 1, vs2, by omega, by go_num, VL.out, R8.out, O10.out, KO8.out, OH7.out, KAH.out, KBH.out, KVH.out, he⟩
    case measure => simp [intOf]; omega
end Go.Proofs.YtlgdghpnfclgpaaGreat

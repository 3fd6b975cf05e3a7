/-
  BrkV; CopyB; StoreL; BrkNew: No condition.
-/
import Derived.Test.YthnpdoadmglipaaGreatFrm
import Derived.Test.YthnpdoadmglipaaGreatNest
import Derived.Test.YthnpdoadmglipaaGreatClientNw
namespace Go.Proofs.YthnpdoadmglipaaGreat
set_option linter.unusedSimpArgs false
open Go.RowKit
set_option linter.unusedVariables false
def brkV (b : BrokerD) (A0 : Option Addr) (c0 : Nat) (A1 : Option Addr) (c1 : Nat) (A2 : Option Addr) (c2 : Nat) (A3 : Option Addr) (c3 : Nat) (A4 : Option Addr) (c4 : Nat) : List Value :=
 [.int .i64 b.width, .slice A0 b.log.entries.length c0, .slice A1 b.receipts.length c1, .slice A2 b.heads.length c2, .int .i64 b.sealed.leaves.size, .slice A3 b.sealed.leaves.peaks.length c3, .int .i64 b.sealed.taken.size, .slice A4 b.sealed.taken.peaks.length c4, .int .i64 b.sealed.head.number, .int .i64 b.sealed.head.size, .string b.sealed.head.root, .int .i64 b.sealed.head.taken, .string b.sealed.head.takenRoot]
theorem infR : (Tryz.prog.info? 92).map (fun i => (i.zero, i.size, i.bytes)) = some (some (.agg #[.string ⟨#[]⟩, .string ⟨#[]⟩, .int .i64 0]), 3, 40) := by kernel_rfl
theorem infH : (Tryz.prog.info? 33).map (fun i => (i.zero, i.size, i.bytes)) = some (some (.agg #[.int .i64 0, .int .i64 0, .string ⟨#[]⟩, .int .i64 0, .string ⟨#[]⟩]), 5, 56) := by kernel_rfl
theorem infE : (Tryz.prog.info? 130).map (fun i => (i.zero, i.size, i.bytes)) = some (some (.agg #[.string ⟨#[]⟩, .int .i64 0, .int .i64 0, .string ⟨#[]⟩, .string ⟨#[]⟩]), 5, 64) := by kernel_rfl
theorem infS : (Tryz.prog.info? 9).map (fun i => (i.zero, i.size, i.bytes)) = some (some (.string ⟨#[]⟩), 1, 16) := by kernel_rfl
theorem srcL_ext {w w' : World} {x : Value} {m size : Nat} {news : List Value} {B : Nat} (h : SrcL w x m size news) (he : Below B w w') (hB : B = w.heap.size) : SrcL w' x m size news := by
 refine srcL_keep h fun p u hu => ?_
 subst hB
 by_cases hb : p.block < w.heap.size
 · exact (Below.cell he (p := p) hb).trans hu
 · exfalso
   have : w.heap[p.block]? = none := Array.getElem?_eq_none (by omega)
   simp [World.cell?, this] at hu
theorem srcL_reads {w : World} {B size n c : Nat} {A : Option Addr} {xs : List Value} (h : Reads w B size A n xs) : SrcL w (.slice A n c) n size xs := by
 cases A with
 | none =>
   have hn : n = 0 := by
    rcases Nat.eq_zero_or_pos n with h0 | h0
    · exact h0
    · obtain ⟨b, off, e, _⟩ := h.2 h0; cases e
   subst hn
   have hx : xs = [] := List.eq_nil_of_length_eq_zero (by simpa using h.1)
   exact .inl ⟨⟨c, rfl⟩, rfl, hx⟩
 | some a =>
   refine .inr ⟨a, c, rfl, h.1, fun j u hu => ?_⟩
   have hn : 0 < n := by
    rcases Nat.eq_zero_or_pos n with h0 | h0
    · subst h0
      have hx : xs = [] := List.eq_nil_of_length_eq_zero (by simpa using h.1)
      rw [hx] at hu; simp at hu
    · exact h0
   obtain ⟨b, off, e, _, hc⟩ := h.2 hn
   cases e
   have h2 := hc j u hu
   unfold Addr.add
   split
   · rename_i h3; rw [h3, Nat.add_zero] at h2; exact h2
   · exact h2
theorem wpList_store_list {P : Program} {ops : Array Oper} {rest : List Oper} {op : Oper} {a : Act} {w : World} {Q : Exit → Act → World → Prop} (hgd : op.guard = none) (ty : TypeId) (x y : Operand) (ho : op.op = .store ty x y) (hd : op.dst = none)
 (b o : Nat) (cells : List Value) (hx : a.eval x = .pointer (some ⟨b, o, none⟩)) (hy : a.eval y = .agg cells.toArray)
 (ht : w.there b o cells.length) (hi : (P.info? ty).map (·.size) = some cells.length) (h1 : cells.all (·.oneCell') = true)
 (h : wpList P ops Q rest a (w.setCells b o cells)) : wpList P ops Q (op :: rest) a w :=
 wpList_store_mid hgd ty x y ho b o cells.toArray hx hy (by simpa using ht) (by simpa using hi) (all_oneCell_toArray (List.all_eq_true.1 h1)) (by rw [hd]; exact h)
theorem wp_store_lst {P : Program} {op : Oper} {a : Act} {w : World} {K : Act → World → Prop} {Q : Exit → Act → World → Prop} (ty : TypeId) (x y : Operand) (ho : op.op = .store ty x y) (hd : op.dst = none)
 (b o : Nat) (cells : List Value) (hx : a.eval x = .pointer (some ⟨b, o, none⟩)) (hy : a.eval y = .agg cells.toArray)
 (ht : w.there b o cells.length) (hi : (P.info? ty).map (·.size) = some cells.length) (h1 : cells.all (·.oneCell') = true)
 (h : K a (w.setCells b o cells)) : op.wp P a w K Q := wp_store_mid ty x y ho b o cells.toArray hx hy (by simpa using ht) (by simpa using hi) (all_oneCell_toArray (List.all_eq_true.1 h1)) (by rw [hd]; exact h)
set_option maxHeartbeats 2000000
set_option maxRecDepth 100000
def sealNC (h : HeadD) : List Value := [.int .i64 0, .slice none 0 0, .int .i64 0, .slice none 0 0, .int .i64 h.number, .int .i64 h.size, .string h.root, .int .i64 h.taken, .string h.takenRoot]
def brokNC (n : Int) (v : Value) (h : HeadD) : List Value := [.int .i64 n, .slice none 0 0, .slice none 0 0, v, .int .i64 0, .slice none 0 0, .int .i64 0, .slice none 0 0, .int .i64 h.number, .int .i64 h.size, .string h.root, .int .i64 h.taken, .string h.takenRoot]
theorem specSealNew_any (n : Int) (w : World) : Calls Tryz.prog 88 #[.int .i64 n] w fun e w' => e = .returned (.tuple #[.agg (sealNC (newH (inR n 1 32) n)).toArray, .bool (inR n 1 32)]) ∧ Ext w w' := by
 have K0 := hU (Blk.new w 35 #[.int .i64 0, .slice none 0 0, .int .i64 0, .slice none 0 0, .int .i64 0, .int .i64 0, .string ⟨#[]⟩, .int .i64 0, .string ⟨#[]⟩])
 have He := hU (Ext.new (Below.refl w.heap.size w) (.cells #[.int .i64 0, .slice none 0 0, .int .i64 0, .slice none 0 0, .int .i64 0, .int .i64 0, .string ⟨#[]⟩, .int .i64 0, .string ⟨#[]⟩] 35))
 cases b1 : inR n 1 32
 all_goals
  obtain ⟨h, hh⟩ : ∃ h, h = newH (inR n 1 32) n := ⟨_, rfl⟩
  have Hh := hU hh
  rw [b1] at hh
  rw [← hh]
  clear hh
  go_enter Tryz.func88, Tryz.ntmps88
  go_wp2_with fail
  obtain ⟨g, hg⟩ : ∃ g, g = w.heap.size := ⟨_, rfl⟩
  rw [← hg] at K0
  rw [← hg]
  have Hg : w.heap.size ≤ g := by omega
  clear hg
  refine (specHeadNew_any n _).mono ?_
  rintro e w1 ⟨he1, h1⟩
  rw [← Hh.out, b1] at he1
  subst he1
  have hZ := K0.out.ext h1; have he := He.out.next h1
  clear h1 K0 He
  have hgl := hZ.lt
  go_upto_region 2 with fail
  replace hZ := hZ.alloc (.cells #[.int .i64 h.number, .int .i64 h.size, .string h.root, .int .i64 h.taken, .string h.takenRoot] 33)
  have hD := Blk.new w1 33 #[.int .i64 h.number, .int .i64 h.size, .string h.root, .int .i64 h.taken, .string h.takenRoot]
  replace he := he.new (.cells #[.int .i64 h.number, .int .i64 h.size, .string h.root, .int .i64 h.taken, .string h.takenRoot] 33)
  obtain ⟨g2, hg2⟩ : ∃ g2, g2 = w1.heap.size := ⟨_, rfl⟩
  rw [← hg2] at hD hgl
  rw [← hg2]
  clear hg2
  generalize w1.alloc (.cells #[.int .i64 h.number, .int .i64 h.size, .string h.root, .int .i64 h.taken, .string h.takenRoot] 33) = w2 at *
  obtain ⟨zc, zf⟩ := hZ.rules
  obtain ⟨dc, df⟩ := hD.rules
  go_wp2_with fail
 · have e0 : h = newH false n := by rw [Hh.out, b1]
   have hz := hZ.put 0 [.int .i64 0, .slice none 0 0, .int .i64 0, .slice none 0 0, .int .i64 0, .int .i64 0, .string ⟨#[]⟩, .int .i64 0, .string ⟨#[]⟩] #[.int .i64 0, .slice none 0 0, .int .i64 0, .slice none 0 0, .int .i64 0, .int .i64 0, .string ⟨#[]⟩, .int .i64 0, .string ⟨#[]⟩] (by simp) rfl
   have hx := ext_setCells (W := w) (g := g) Hg [.int .i64 0, .slice none 0 0, .int .i64 0, .slice none 0 0, .int .i64 0, .int .i64 0, .string ⟨#[]⟩, .int .i64 0, .string ⟨#[]⟩] 0 _ he
   refine ret_row_tmp rfl rfl hz Tryz.underlying35 rfl (by kernel_rfl) rfl ⟨?_, hx⟩
   rw [e0]; rfl
 · have hz := hZ.put 0 [.int .i64 0, .slice none 0 0, .int .i64 0, .slice none 0 0, .int .i64 h.number, .int .i64 h.size, .string h.root, .int .i64 h.taken, .string h.takenRoot] #[.int .i64 0, .slice none 0 0, .int .i64 0, .slice none 0 0, .int .i64 h.number, .int .i64 h.size, .string h.root, .int .i64 h.taken, .string h.takenRoot] (by simp) rfl
   have hx := ext_setCells (W := w) (g := g) Hg [.int .i64 0, .slice none 0 0, .int .i64 0, .slice none 0 0, .int .i64 h.number, .int .i64 h.size, .string h.root, .int .i64 h.taken, .string h.takenRoot] 0 _ he
   exact ret_row_tmp rfl rfl hz Tryz.underlying35 rfl (by kernel_rfl) rfl ⟨rfl, hx⟩
theorem specBrokerNew_yes (n : Int) (w : World) (b1 : inR n 1 32 = true) : Calls Tryz.prog 52 #[.int .i64 n] w fun e w' => ∃ q, e = .returned (.tuple #[.agg (brokNC n (.slice (some ⟨q, 0, none⟩) 1 1) (newH true n)).toArray, .bool true]) ∧ w.heap.size ≤ q ∧ Blk w' q 33 (newH true n).cells.toArray ∧ Ext w w' := by
 have K0 := hU (Blk.new w 37 #[.int .i64 0, .slice none 0 0, .slice none 0 0, .slice none 0 0, .int .i64 0, .slice none 0 0, .int .i64 0, .slice none 0 0, .int .i64 0, .int .i64 0, .string ⟨#[]⟩, .int .i64 0, .string ⟨#[]⟩])
 have He := hU (Ext.new (Below.refl w.heap.size w) (.cells #[.int .i64 0, .slice none 0 0, .slice none 0 0, .slice none 0 0, .int .i64 0, .slice none 0 0, .int .i64 0, .slice none 0 0, .int .i64 0, .int .i64 0, .string ⟨#[]⟩, .int .i64 0, .string ⟨#[]⟩] 37))
 obtain ⟨h, hh⟩ : ∃ h, h = newH true n := ⟨_, rfl⟩
 have Hh := hU hh
 rw [← hh]
 clear hh
 go_enter Tryz.func52, Tryz.ntmps52
 go_wp2_with fail
 obtain ⟨g, hg⟩ : ∃ g, g = w.heap.size := ⟨_, rfl⟩
 have K1 := hU (show Blk _ g _ _ by rw [hg]; exact K0.out)
 rw [← hg]
 have Hg : w.heap.size ≤ g := by omega
 clear hg K0
 refine (specSealNew_any n _).mono ?_
 rintro e w1 ⟨he1, h1⟩
 rw [b1, ← Hh.out] at he1
 subst he1
 have hZ := K1.out.ext h1; have he := He.out.next h1
 clear h1 K1 He
 simp only [sealNC]
 have hgl := hZ.lt
 go_upto_region 2 with fail
 replace hZ := hZ.alloc (.cells #[.int .i64 0, .slice none 0 0, .int .i64 0, .slice none 0 0, .int .i64 h.number, .int .i64 h.size, .string h.root, .int .i64 h.taken, .string h.takenRoot] 35)
 have hD := Blk.new w1 35 #[.int .i64 0, .slice none 0 0, .int .i64 0, .slice none 0 0, .int .i64 h.number, .int .i64 h.size, .string h.root, .int .i64 h.taken, .string h.takenRoot]
 replace he := he.new (.cells #[.int .i64 0, .slice none 0 0, .int .i64 0, .slice none 0 0, .int .i64 h.number, .int .i64 h.size, .string h.root, .int .i64 h.taken, .string h.takenRoot] 35)
 obtain ⟨g2, hg2⟩ : ∃ g2, g2 = w1.heap.size := ⟨_, rfl⟩
 rw [← hg2] at hD hgl
 rw [← hg2]
 clear hg2
 generalize w1.alloc (.cells #[.int .i64 0, .slice none 0 0, .int .i64 0, .slice none 0 0, .int .i64 h.number, .int .i64 h.size, .string h.root, .int .i64 h.taken, .string h.takenRoot] 35) = w2 at *
 obtain ⟨zc, zf⟩ := hZ.rules
 obtain ⟨dc, df⟩ := hD.rules
 have hw2 := he.size
 have K3 := hU (Blk.new w2 33 #[.int .i64 h.number, .int .i64 h.size, .string h.root, .int .i64 h.taken, .string h.takenRoot])
 have hZ3 := hZ.alloc (.cells #[.int .i64 h.number, .int .i64 h.size, .string h.root, .int .i64 h.taken, .string h.takenRoot] 33)
 have he3 := he.new (.cells #[.int .i64 h.number, .int .i64 h.size, .string h.root, .int .i64 h.taken, .string h.takenRoot] 33)
 have hlt := hZ.lt
 have hlt2 := hD.lt
 obtain ⟨w4, hw4, hz, hx, ho⟩ : ∃ w4, w4 = (w2.alloc (.cells #[.int .i64 h.number, .int .i64 h.size, .string h.root, .int .i64 h.taken, .string h.takenRoot] 33)).setCells g 0 [.int .i64 n, .slice none 0 0, .slice none 0 0, .slice (some ⟨w2.heap.size, 0, none⟩) 1 1, .int .i64 0, .slice none 0 0, .int .i64 0, .slice none 0 0, .int .i64 h.number, .int .i64 h.size, .string h.root, .int .i64 h.taken, .string h.takenRoot] ∧ Blk w4 g 37 #[.int .i64 n, .slice none 0 0, .slice none 0 0, .slice (some ⟨w2.heap.size, 0, none⟩) 1 1, .int .i64 0, .slice none 0 0, .int .i64 0, .slice none 0 0, .int .i64 h.number, .int .i64 h.size, .string h.root, .int .i64 h.taken, .string h.takenRoot] ∧ Ext w w4 ∧ Blk w4 w2.heap.size 33 h.cells.toArray :=
  ⟨_, rfl, hZ3.put 0 [.int .i64 n, .slice none 0 0, .slice none 0 0, .slice (some ⟨w2.heap.size, 0, none⟩) 1 1, .int .i64 0, .slice none 0 0, .int .i64 0, .slice none 0 0, .int .i64 h.number, .int .i64 h.size, .string h.root, .int .i64 h.taken, .string h.takenRoot] #[.int .i64 n, .slice none 0 0, .slice none 0 0, .slice (some ⟨w2.heap.size, 0, none⟩) 1 1, .int .i64 0, .slice none 0 0, .int .i64 0, .slice none 0 0, .int .i64 h.number, .int .i64 h.size, .string h.root, .int .i64 h.taken, .string h.takenRoot] (by simp) rfl, ext_setCells (W := w) (g := g) Hg [.int .i64 n, .slice none 0 0, .slice none 0 0, .slice (some ⟨w2.heap.size, 0, none⟩) 1 1, .int .i64 0, .slice none 0 0, .int .i64 0, .slice none 0 0, .int .i64 h.number, .int .i64 h.size, .string h.root, .int .i64 h.taken, .string h.takenRoot] 0 _ he3, K3.out.farCells (g' := g) (by omega) [.int .i64 n, .slice none 0 0, .slice none 0 0, .slice (some ⟨w2.heap.size, 0, none⟩) 1 1, .int .i64 0, .slice none 0 0, .int .i64 0, .slice none 0 0, .int .i64 h.number, .int .i64 h.size, .string h.root, .int .i64 h.taken, .string h.takenRoot] 0⟩
 have HW := hU hw4
 have T3 := hU (hZ3.there 0 13 (by simp))
 have Z4 := hU hz; have X4 := hU hx; have O4 := hU ho
 clear hw4 hz hx ho hZ3 he3 K3 he hZ hD
 have R2 : Hid (w2.rangeAt g2 0 [.int .i64 0, .slice none 0 0, .int .i64 0, .slice none 0 0, .int .i64 h.number, .int .i64 h.size, .string h.root, .int .i64 h.taken, .string h.takenRoot]) := hU (fun j v hv => by rw [Nat.zero_add, dc]; simpa using hv)
 go_wp2_with (first | (refine wpList_store_list rfl 37 _ _ rfl rfl g 0 [.int .i64 n, .slice none 0 0, .slice none 0 0, .slice (some ⟨w2.heap.size, 0, none⟩) 1 1, .int .i64 0, .slice none 0 0, .int .i64 0, .slice none 0 0, .int .i64 h.number, .int .i64 h.size, .string h.root, .int .i64 h.taken, .string h.takenRoot] rfl rfl T3.out (by kernel_rfl) (by rfl) ?_; rw [← HW.out]))
 exact ret_row_tmp rfl rfl Z4.out Tryz.underlying37 rfl (by kernel_rfl) rfl ⟨_, rfl, hw2, O4.out, X4.out⟩
end Go.Proofs.YthnpdoadmglipaaGreat

/-
  BrkNew; Reread; Frames: No condition.
-/
import Derived.Test.YtgeengkdgdjcjaaGreatClientNw
import Derived.Test.YtgeengkdgdjcjaaGreatStoreL
import Derived.Test.YtgeengkdgdjcjaaGreatWords
import Derived.Test.YtgeengkdgdjcjaaGreatHeadOps
import Derived.Test.YtgeengkdgdjcjaaGreatHashTop
namespace Go.Proofs.YtgeengkdgdjcjaaGreat
set_option maxHeartbeats 2000000
set_option maxRecDepth 100000
set_option linter.unusedSimpArgs false
open Go.RowKit
set_option linter.unusedVariables false
def sealNC (h : HeadD) : List Value := [.int .i64 0, .slice none 0 0, .int .i64 0, .slice none 0 0, .int .i64 h.number, .int .i64 h.size, .string h.root, .int .i64 h.taken, .string h.takenRoot]
def brokNC (n : Int) (v : Value) (h : HeadD) : List Value := [.int .i64 n, .slice none 0 0, .slice none 0 0, v, .int .i64 0, .slice none 0 0, .int .i64 0, .slice none 0 0, .int .i64 h.number, .int .i64 h.size, .string h.root, .int .i64 h.taken, .string h.takenRoot]
theorem implSealNew_any (n : Int) (w : World) : Calls Tryz.prog 200 #[.int .i64 n] w fun e w' => e = .returned (.tuple #[.agg (sealNC (newH (inR n 1 32) n)).toArray, .bool (inR n 1 32)]) ∧ Ext w w' := by
 have K0 := hU (Blk.new w 35 #[.int .i64 0, .slice none 0 0, .int .i64 0, .slice none 0 0, .int .i64 0, .int .i64 0, .string ⟨#[]⟩, .int .i64 0, .string ⟨#[]⟩])
 have He := hU (Ext.new (Below.refl w.heap.size w) (.cells #[.int .i64 0, .slice none 0 0, .int .i64 0, .slice none 0 0, .int .i64 0, .int .i64 0, .string ⟨#[]⟩, .int .i64 0, .string ⟨#[]⟩] 35))
 cases b1 : inR n 1 32
 all_goals
  obtain ⟨h, hh⟩ : ∃ h, h = newH (inR n 1 32) n := ⟨_, rfl⟩
  have Hh := hU hh
  rw [b1] at hh
  rw [← hh]
  clear hh
  go_enter Tryz.func200, Tryz.ntmps200
  go_wp2_with fail
  obtain ⟨g, hg⟩ : ∃ g, g = w.heap.size := ⟨_, rfl⟩
  rw [← hg] at K0
  rw [← hg]
  have Hg : w.heap.size ≤ g := by omega
  clear hg
  refine (implHeadNew_any n _).mono ?_
  rintro e w1 ⟨he1, h1⟩
  rw [← Hh.out, b1] at he1
  subst he1
  have hZ := K0.out.ext h1; have he := He.out.next h1
  clear h1 K0 He
  have hgl := hZ.lt
  go_upto_region 2 with fail
  replace hZ := hZ.alloc (.cells #[.int .i64 h.number, .int .i64 h.size, .string h.root, .int .i64 h.taken, .string h.takenRoot] 33)
  have hD := Blk.new w1 33 #[.int .i64 h.number, .int .i64 h.size, .string h.root, .int .i64 h.taken, .string h.takenRoot]
  replace he := he.new (.cells #[.int .i64 h.number, .int .i64 h.size, .string h.root, .int .i64 h.taken, .string h.takenRoot] 33)
  obtain ⟨g2, hg2⟩ : ∃ g2, g2 = w1.heap.size := ⟨_, rfl⟩
  rw [← hg2] at hD hgl
  rw [← hg2]
  clear hg2
  generalize w1.alloc (.cells #[.int .i64 h.number, .int .i64 h.size, .string h.root, .int .i64 h.taken, .string h.takenRoot] 33) = w2 at *
  obtain ⟨zc, zf⟩ := hZ.rules
  obtain ⟨dc, df⟩ := hD.rules
  go_wp2_with fail
 · have e0 : h = newH false n := by rw [Hh.out, b1]
   have hz := hZ.put 0 [.int .i64 0, .slice none 0 0, .int .i64 0, .slice none 0 0, .int .i64 0, .int .i64 0, .string ⟨#[]⟩, .int .i64 0, .string ⟨#[]⟩] #[.int .i64 0, .slice none 0 0, .int .i64 0, .slice none 0 0, .int .i64 0, .int .i64 0, .string ⟨#[]⟩, .int .i64 0, .string ⟨#[]⟩] (by simp) rfl
   have hx := ext_setCells (W := w) (g := g) Hg [.int .i64 0, .slice none 0 0, .int .i64 0, .slice none 0 0, .int .i64 0, .int .i64 0, .string ⟨#[]⟩, .int .i64 0, .string ⟨#[]⟩] 0 _ he
   refine ret_row_tmp rfl rfl hz Tryz.underlying35 rfl (by kernel_rfl) rfl ⟨?_, hx⟩
   rw [e0]; rfl
 · have hz := hZ.put 0 [.int .i64 0, .slice none 0 0, .int .i64 0, .slice none 0 0, .int .i64 h.number, .int .i64 h.size, .string h.root, .int .i64 h.taken, .string h.takenRoot] #[.int .i64 0, .slice none 0 0, .int .i64 0, .slice none 0 0, .int .i64 h.number, .int .i64 h.size, .string h.root, .int .i64 h.taken, .string h.takenRoot] (by simp) rfl
   have hx := ext_setCells (W := w) (g := g) Hg [.int .i64 0, .slice none 0 0, .int .i64 0, .slice none 0 0, .int .i64 h.number, .int .i64 h.size, .string h.root, .int .i64 h.taken, .string h.takenRoot] 0 _ he
   exact ret_row_tmp rfl rfl hz Tryz.underlying35 rfl (by kernel_rfl) rfl ⟨rfl, hx⟩
theorem specSealNew_any (n : Int) (w : World) : Calls Tryz.prog 176 #[.int .i64 n] w fun e w' => e = .returned (.tuple #[.agg (sealNC (newH (inR n 1 32) n)).toArray, .bool (inR n 1 32)]) ∧ Ext w w' := by
 have K0 := hU (Blk.new w 35 #[.int .i64 0, .slice none 0 0, .int .i64 0, .slice none 0 0, .int .i64 0, .int .i64 0, .string ⟨#[]⟩, .int .i64 0, .string ⟨#[]⟩])
 have He := hU (Ext.new (Below.refl w.heap.size w) (.cells #[.int .i64 0, .slice none 0 0, .int .i64 0, .slice none 0 0, .int .i64 0, .int .i64 0, .string ⟨#[]⟩, .int .i64 0, .string ⟨#[]⟩] 35))
 cases b1 : inR n 1 32
 all_goals
  obtain ⟨h, hh⟩ : ∃ h, h = newH (inR n 1 32) n := ⟨_, rfl⟩
  have Hh := hU hh
  rw [b1] at hh
  rw [← hh]
  clear hh
  go_enter Tryz.func176, Tryz.ntmps176
  go_wp2_with fail
  obtain ⟨g, hg⟩ : ∃ g, g = w.heap.size := ⟨_, rfl⟩
  rw [← hg] at K0
  rw [← hg]
  have Hg : w.heap.size ≤ g := by omega
  clear hg
  refine (specHeadNew_any n _).mono ?_
  rintro e w1 ⟨he1, h1⟩
  rw [← Hh.out, b1] at he1
  subst he1
  have hZ := K0.out.ext h1; have he := He.out.next h1
  clear h1 K0 He
  have hgl := hZ.lt
  go_upto_region 2 with fail
  replace hZ := hZ.alloc (.cells #[.int .i64 h.number, .int .i64 h.size, .string h.root, .int .i64 h.taken, .string h.takenRoot] 33)
  have hD := Blk.new w1 33 #[.int .i64 h.number, .int .i64 h.size, .string h.root, .int .i64 h.taken, .string h.takenRoot]
  replace he := he.new (.cells #[.int .i64 h.number, .int .i64 h.size, .string h.root, .int .i64 h.taken, .string h.takenRoot] 33)
  obtain ⟨g2, hg2⟩ : ∃ g2, g2 = w1.heap.size := ⟨_, rfl⟩
  rw [← hg2] at hD hgl
  rw [← hg2]
  clear hg2
  generalize w1.alloc (.cells #[.int .i64 h.number, .int .i64 h.size, .string h.root, .int .i64 h.taken, .string h.takenRoot] 33) = w2 at *
  obtain ⟨zc, zf⟩ := hZ.rules
  obtain ⟨dc, df⟩ := hD.rules
  go_wp2_with fail
 · have e0 : h = newH false n := by rw [Hh.out, b1]
   have hz := hZ.put 0 [.int .i64 0, .slice none 0 0, .int .i64 0, .slice none 0 0, .int .i64 0, .int .i64 0, .string ⟨#[]⟩, .int .i64 0, .string ⟨#[]⟩] #[.int .i64 0, .slice none 0 0, .int .i64 0, .slice none 0 0, .int .i64 0, .int .i64 0, .string ⟨#[]⟩, .int .i64 0, .string ⟨#[]⟩] (by simp) rfl
   have hx := ext_setCells (W := w) (g := g) Hg [.int .i64 0, .slice none 0 0, .int .i64 0, .slice none 0 0, .int .i64 0, .int .i64 0, .string ⟨#[]⟩, .int .i64 0, .string ⟨#[]⟩] 0 _ he
   refine ret_row_tmp rfl rfl hz Tryz.underlying35 rfl (by kernel_rfl) rfl ⟨?_, hx⟩
   rw [e0]; rfl
 · have hz := hZ.put 0 [.int .i64 0, .slice none 0 0, .int .i64 0, .slice none 0 0, .int .i64 h.number, .int .i64 h.size, .string h.root, .int .i64 h.taken, .string h.takenRoot] #[.int .i64 0, .slice none 0 0, .int .i64 0, .slice none 0 0, .int .i64 h.number, .int .i64 h.size, .string h.root, .int .i64 h.taken, .string h.takenRoot] (by simp) rfl
   have hx := ext_setCells (W := w) (g := g) Hg [.int .i64 0, .slice none 0 0, .int .i64 0, .slice none 0 0, .int .i64 h.number, .int .i64 h.size, .string h.root, .int .i64 h.taken, .string h.takenRoot] 0 _ he
   exact ret_row_tmp rfl rfl hz Tryz.underlying35 rfl (by kernel_rfl) rfl ⟨rfl, hx⟩
theorem specBrokerNew_yes (n : Int) (w : World) (b1 : inR n 1 32 = true) : Calls Tryz.prog 108 #[.int .i64 n] w fun e w' => ∃ q, e = .returned (.tuple #[.agg (brokNC n (.slice (some ⟨q, 0, none⟩) 1 1) (newH true n)).toArray, .bool true]) ∧ w.heap.size ≤ q ∧ Blk w' q 33 (newH true n).cells.toArray ∧ Ext w w' := by
 have K0 := hU (Blk.new w 37 #[.int .i64 0, .slice none 0 0, .slice none 0 0, .slice none 0 0, .int .i64 0, .slice none 0 0, .int .i64 0, .slice none 0 0, .int .i64 0, .int .i64 0, .string ⟨#[]⟩, .int .i64 0, .string ⟨#[]⟩])
 have He := hU (Ext.new (Below.refl w.heap.size w) (.cells #[.int .i64 0, .slice none 0 0, .slice none 0 0, .slice none 0 0, .int .i64 0, .slice none 0 0, .int .i64 0, .slice none 0 0, .int .i64 0, .int .i64 0, .string ⟨#[]⟩, .int .i64 0, .string ⟨#[]⟩] 37))
 obtain ⟨h, hh⟩ : ∃ h, h = newH true n := ⟨_, rfl⟩
 have Hh := hU hh
 rw [← hh]
 clear hh
 go_enter Tryz.func108, Tryz.ntmps108
 go_wp2_with fail
 obtain ⟨g, hg⟩ : ∃ g, g = w.heap.size := ⟨_, rfl⟩
 have K1 := hU (show Blk _ g _ _ by rw [hg]; exact K0.out)
 rw [← hg]
 have Hg : w.heap.size ≤ g := by omega
 clear hg K0
 refine (specSealNew_any n _).mono ?_
 rintro e w1 ⟨he1, h1⟩
 rw [b1, ← Hh.out] at he1
 subst he1
 have hZ := K1.out.ext h1; have he := He.out.next h1
 clear h1 K1 He
 simp only [sealNC]
 have hgl := hZ.lt
 go_upto_region 2 with fail
 replace hZ := hZ.alloc (.cells #[.int .i64 0, .slice none 0 0, .int .i64 0, .slice none 0 0, .int .i64 h.number, .int .i64 h.size, .string h.root, .int .i64 h.taken, .string h.takenRoot] 35)
 have hD := Blk.new w1 35 #[.int .i64 0, .slice none 0 0, .int .i64 0, .slice none 0 0, .int .i64 h.number, .int .i64 h.size, .string h.root, .int .i64 h.taken, .string h.takenRoot]
 replace he := he.new (.cells #[.int .i64 0, .slice none 0 0, .int .i64 0, .slice none 0 0, .int .i64 h.number, .int .i64 h.size, .string h.root, .int .i64 h.taken, .string h.takenRoot] 35)
 obtain ⟨g2, hg2⟩ : ∃ g2, g2 = w1.heap.size := ⟨_, rfl⟩
 rw [← hg2] at hD hgl
 rw [← hg2]
 clear hg2
 generalize w1.alloc (.cells #[.int .i64 0, .slice none 0 0, .int .i64 0, .slice none 0 0, .int .i64 h.number, .int .i64 h.size, .string h.root, .int .i64 h.taken, .string h.takenRoot] 35) = w2 at *
 obtain ⟨zc, zf⟩ := hZ.rules
 obtain ⟨dc, df⟩ := hD.rules
 have hw2 := he.size
 have K3 := hU (Blk.new w2 33 #[.int .i64 h.number, .int .i64 h.size, .string h.root, .int .i64 h.taken, .string h.takenRoot])
 have hZ3 := hZ.alloc (.cells #[.int .i64 h.number, .int .i64 h.size, .string h.root, .int .i64 h.taken, .string h.takenRoot] 33)
 have he3 := he.new (.cells #[.int .i64 h.number, .int .i64 h.size, .string h.root, .int .i64 h.taken, .string h.takenRoot] 33)
 have hlt := hZ.lt
 have hlt2 := hD.lt
 obtain ⟨w4, hw4, hz, hx, ho⟩ : ∃ w4, w4 = (w2.alloc (.cells #[.int .i64 h.number, .int .i64 h.size, .string h.root, .int .i64 h.taken, .string h.takenRoot] 33)).setCells g 0 [.int .i64 n, .slice none 0 0, .slice none 0 0, .slice (some ⟨w2.heap.size, 0, none⟩) 1 1, .int .i64 0, .slice none 0 0, .int .i64 0, .slice none 0 0, .int .i64 h.number, .int .i64 h.size, .string h.root, .int .i64 h.taken, .string h.takenRoot] ∧ Blk w4 g 37 #[.int .i64 n, .slice none 0 0, .slice none 0 0, .slice (some ⟨w2.heap.size, 0, none⟩) 1 1, .int .i64 0, .slice none 0 0, .int .i64 0, .slice none 0 0, .int .i64 h.number, .int .i64 h.size, .string h.root, .int .i64 h.taken, .string h.takenRoot] ∧ Ext w w4 ∧ Blk w4 w2.heap.size 33 h.cells.toArray :=
  ⟨_, rfl, hZ3.put 0 [.int .i64 n, .slice none 0 0, .slice none 0 0, .slice (some ⟨w2.heap.size, 0, none⟩) 1 1, .int .i64 0, .slice none 0 0, .int .i64 0, .slice none 0 0, .int .i64 h.number, .int .i64 h.size, .string h.root, .int .i64 h.taken, .string h.takenRoot] #[.int .i64 n, .slice none 0 0, .slice none 0 0, .slice (some ⟨w2.heap.size, 0, none⟩) 1 1, .int .i64 0, .slice none 0 0, .int .i64 0, .slice none 0 0, .int .i64 h.number, .int .i64 h.size, .string h.root, .int .i64 h.taken, .string h.takenRoot] (by simp) rfl, ext_setCells (W := w) (g := g) Hg [.int .i64 n, .slice none 0 0, .slice none 0 0, .slice (some ⟨w2.heap.size, 0, none⟩) 1 1, .int .i64 0, .slice none 0 0, .int .i64 0, .slice none 0 0, .int .i64 h.number, .int .i64 h.size, .string h.root, .int .i64 h.taken, .string h.takenRoot] 0 _ he3, K3.out.farCells (g' := g) (by omega) [.int .i64 n, .slice none 0 0, .slice none 0 0, .slice (some ⟨w2.heap.size, 0, none⟩) 1 1, .int .i64 0, .slice none 0 0, .int .i64 0, .slice none 0 0, .int .i64 h.number, .int .i64 h.size, .string h.root, .int .i64 h.taken, .string h.takenRoot] 0⟩
 have HW := hU hw4
 have T3 := hU (hZ3.there 0 13 (by simp))
 have Z4 := hU hz; have X4 := hU hx; have O4 := hU ho
 clear hw4 hz hx ho hZ3 he3 K3 he hZ hD
 have R2 : Hid (w2.rangeAt g2 0 [.int .i64 0, .slice none 0 0, .int .i64 0, .slice none 0 0, .int .i64 h.number, .int .i64 h.size, .string h.root, .int .i64 h.taken, .string h.takenRoot]) := hU (fun j v hv => by rw [Nat.zero_add, dc]; simpa using hv)
 go_wp2_with (first | (refine wpList_store_list rfl 37 _ _ rfl rfl g 0 [.int .i64 n, .slice none 0 0, .slice none 0 0, .slice (some ⟨w2.heap.size, 0, none⟩) 1 1, .int .i64 0, .slice none 0 0, .int .i64 0, .slice none 0 0, .int .i64 h.number, .int .i64 h.size, .string h.root, .int .i64 h.taken, .string h.takenRoot] rfl rfl T3.out (by kernel_rfl) (by rfl) ?_; rw [← HW.out]))
 exact ret_row_tmp rfl rfl Z4.out Tryz.underlying37 rfl (by kernel_rfl) rfl ⟨_, rfl, hw2, O4.out, X4.out⟩
def Sofar (T : ByteArray) (r : Rd) (X : ByteArray) : Prop := r.bad = false → T.extract 0 r.pos = X ∧ r.pos ≤ T.size
theorem Sofar.start (T : ByteArray) : Sofar T ⟨0, false⟩ ⟨#[]⟩ := fun _ => ⟨by simp; rfl, Nat.zero_le _⟩
theorem rdNext_ok {T : ByteArray} {r : Rd} {n : Nat} (h : (rdNext T r n).bad = false) : r.bad = false ∧ (rdNext T r n).pos = r.pos + n ∧ r.pos + n ≤ T.size ∧ rdTake T r n = T.extract r.pos (r.pos + n) := by
 unfold rdNext at h ⊢
 unfold rdTake
 cases hf : rdFails T r n
 · simp only [rdFails, Bool.or_eq_false_iff, decide_eq_false_iff_not] at hf
   exact ⟨hf.1, rfl, by omega, rfl⟩
 · rw [hf] at h; simp at h
theorem Sofar.take {T : ByteArray} {r : Rd} {X : ByteArray} (h : Sofar T r X) (n : Nat) : Sofar T (rdNext T r n) (X ++ rdTake T r n) := by
 intro hb
 obtain ⟨h1, h2, h3, h4⟩ := rdNext_ok hb
 obtain ⟨h5, h6⟩ := h h1
 refine ⟨?_, by omega⟩
 rw [h2, h4, ← h5]
 exact ByteArray.extract_eq_extract_append_extract r.pos (Nat.zero_le _) (by omega)
theorem ofNat_mod (m : Nat) (c : UInt8) (h : m % 256 = c.toNat) : UInt8.ofNat m = c := by
 apply UInt8.toNat_inj.1
 rw [UInt8.toNat_ofNat']
 have := c.toNat_lt
 show m % 256 = _
 omega
theorem two_of (b : ByteArray) (h : b.size = 2) : octB ((beNum b : Int) / 256) ++ octB (beNum b : Int) = b := by
 obtain ⟨⟨l⟩⟩ := b
 match l, h with
 | [c, d], _ =>
   simp only [beNum, octB, ofInts, List.foldl_cons, List.foldl_nil, List.map_cons, List.map_nil]
   rw [ofNat_mod _ c (by have := c.toNat_lt; have := d.toNat_lt; omega), ofNat_mod _ d (by have := c.toNat_lt; have := d.toNat_lt; omega)]
   rfl
theorem bytes_beq (a b : ByteArray) : (a.toList == b.toList) = decide (a = b) := by
 rw [Bool.eq_iff_iff]; simp [bytes_eq_iff]
theorem kind_of (b : ByteArray) (c : UInt8) : (b.toList == [c]) = decide (b = ⟨#[c]⟩) := by
 have h : (⟨#[c]⟩ : ByteArray).toList = [c] := by rw [ByteArray.toList_eq]
 have h2 := bytes_beq b ⟨#[c]⟩
 rw [h] at h2
 exact h2
theorem dig4 {T : ByteArray} (h : inR T.size 1 1000 = true) : digestOk 4 4 T = true := by
 obtain ⟨h0, h1⟩ := inR_true h
 simp only [digestOk, Bool.and_eq_true, decide_eq_true_eq]
 exact ⟨⟨by decide, by decide⟩, by omega⟩
theorem dig4_size {T : ByteArray} (h : inR T.size 1 1000 = true) : (digest 4 4 T).size = 4 := digest_size (dig4 h)
def frameB (T : ByteArray) : ByteArray := lowB T.size 2 ++ digest 4 4 T ++ T
def frameOut (T : ByteArray) : ByteArray := if inR T.size 1 1000 then frameB T else ⟨#[]⟩
theorem specFrame_any (T : ByteArray) (w : World) (hT : T.size ≤ maxLen) : Calls Tryz.prog 52 #[.string T] w fun e w' => e = .returned (.tuple #[.string (frameOut T), .bool (inR T.size 1 1000)]) ∧ Ext w w' := by
 have HT := hU hT
 unfold maxLen at hT
 cases b1 : inR T.size 1 1000
 · have E := hU (show frameOut T = ⟨#[]⟩ by simp [frameOut, b1])
   go_enter Tryz.func52, Tryz.ntmps52
   go_wp2_with (go_at_call 116; refine (l01In_any _ _ _ _).mono ?_; rintro e w' ⟨rfl, rfl⟩)
   go_ret2
   exact ⟨by rw [E.out]; rfl, Below.refl _ _⟩
 · have E := hU (show frameOut T = frameB T by simp [frameOut, b1])
   obtain ⟨h0, h1⟩ := inR_true b1
   have d4 := dig4_size b1
   have l2 := lowB_size T.size 2
   have n1 : ¬ 9223372036854775807 < (lowB T.size 2).size + (digest 4 4 T).size := by omega
   have n2 : ¬ 9223372036854775807 < (lowB T.size 2).size + (digest 4 4 T).size + T.size := by omega
   have he := Below.refl w.heap.size w
   go_enter Tryz.func52, Tryz.ntmps52
   go_wp2_with (go_at_call 116; refine (l01In_any _ _ _ _).mono ?_; rintro e w' ⟨rfl, rfl⟩)
   refine (specDigest_any 4 4 T _ HT.out).mono ?_
   rintro e w1 ⟨rfl, hx⟩
   replace he : Ext w w1 := Ext.next he hx
   go_wp2_with fail
   refine (l03Number_any T.size 2 _ (by omega) (by decide)).mono ?_
   rintro e w2 ⟨rfl, hx⟩
   replace he : Ext w w2 := he.next hx
   go_wp2_with fail
   go_ret2
   exact ⟨by rw [E.out]; rfl, he⟩
def fa0 (p : Nat) : Rd := ⟨p, false⟩
def faN (T : ByteArray) (p : Nat) : Nat := beNum (rdTake T (fa0 p) 2)
def fa1 (T : ByteArray) (p : Nat) : Rd := rdNext T (fa0 p) 2
def faSum (T : ByteArray) (p : Nat) : ByteArray := rdTake T (fa1 T p) 4
def fa2 (T : ByteArray) (p : Nat) : Rd := rdNext T (fa1 T p) 4
def faText (T : ByteArray) (p : Nat) : ByteArray := rdTake T (fa2 T p) (faN T p)
def fa3 (T : ByteArray) (p : Nat) : Rd := rdNext T (fa2 T p) (faN T p)
def faOk (T : ByteArray) (p : Nat) : Bool := !(fa3 T p).bad && inR (faN T p) 1 1000 && ((digest 4 4 (faText T p)).toList == (faSum T p).toList)
def faRes (T : ByteArray) (p : Nat) : Ending := .returned (.tuple #[.string (if faOk T p then faText T p else ⟨#[]⟩), .int .i64 (if faOk T p then ((fa3 T p).pos : Int) else 0), .bool (faOk T p)])
theorem faText_size (T : ByteArray) (p : Nat) : (faText T p).size ≤ T.size := by
 unfold faText rdTake
 split
 · exact Nat.zero_le _
 · rw [ByteArray.size_extract]; omega
theorem frameAt_any (T : ByteArray) (p : Nat) (w : World) (hT : T.size ≤ 1099511627776) (hp : p ≤ T.size) : Calls Tryz.prog 118 #[.string T, .int .i64 (p : Int)] w fun e w' => e = faRes T p ∧ Ext w w' := by
 have p1 := rdNext_pos T (fa0 p) 2 hp
 have p2 := rdNext_pos T (fa1 T p) 4 p1
 have p3 := rdNext_pos T (fa2 T p) (faN T p) p2
 have hN : faN T p < 4294967296 := beNum_le _ (Nat.le_trans (rdTake_size _ _ _) (by decide))
 have hD : (faText T p).size ≤ maxLen := by have := faText_size T p; unfold maxLen; omega
 have HN := hU hN
 have HP := hU p1
 have HP2 := hU p2
 have HP3 := hU p3
 clear hN p1 p2 p3
 have hB : Blk _ _ 248 (rdCells T (fa0 p)) := Blk.new w 248 #[.string T, .int .i64 (p : Int), .bool false]
 have he := Ext.new (Below.refl w.heap.size w) (.cells #[.string T, .int .i64 (p : Int), .bool false] 248)
 go_enter Tryz.func118, Tryz.ntmps118
 go_wp2_with fail
 obtain ⟨g, hg⟩ : ∃ g, g = w.heap.size := ⟨_, rfl⟩
 rw [← hg] at hB
 rw [← hg]
 have Hg : w.heap.size ≤ g := by omega
 clear hg
 refine (number_any g T (fa0 p) 2 _ hB hp hT (by decide)).mono ?_
 rintro e w1 ⟨rfl, hB, hx⟩
 replace he := he.nextBut Hg hx; clear hx
 go_wp2_with fail
 refine (bytes_any g T (fa1 T p) 4 _ hB HP.out hT (by decide)).mono ?_
 rintro e w2 ⟨rfl, hB, hx⟩
 replace he := he.nextBut Hg hx; clear hx
 go_wp2_with fail
 refine (bytes_any g T (fa2 T p) (faN T p) _ hB HP2.out hT (by have := HN.out; omega)).mono ?_
 rintro e w3 ⟨rfl, hB, hx⟩
 replace he := he.nextBut Hg hx; clear hx
 obtain ⟨q, hq⟩ : ∃ q, q = (fa3 T p).pos := ⟨_, rfl⟩
 have Hq := hU hq
 clear hq
 have c1 : w3.cell? ⟨g, 1, none⟩ = some (.int .i64 (q : Int)) := by rw [Hq.out]; exact hB.cell 1
 have f2 := hB.frozen 2
 cases b1 : (fa3 T p).bad
 · have c2 : w3.cell? ⟨g, 2, none⟩ = some (.bool false) := by rw [← b1]; exact hB.cell 2
   clear hB
   cases b2 : inR (faN T p) 1 1000
   · have E := hU (show faOk T p = false by simp [faOk, b2])
     have b2' : inR (beNum (rdTake T (fa0 p) 2)) 1 1000 = false := b2
     go_wp2_with (go_at_call 117; refine (inRange_any _ _ _ _).mono ?_; rintro e w' ⟨rfl, rfl⟩)
     go_ret3
     exact ⟨by rw [faRes, E.out]; rfl, he⟩
   · have b2' : inR (beNum (rdTake T (fa0 p) 2)) 1 1000 = true := b2
     go_wp2_with (go_at_call 117; refine (inRange_any _ _ _ _).mono ?_; rintro e w' ⟨rfl, rfl⟩)
     refine (Digest_any 4 4 (faText T p) _ hD).mono ?_
     rintro e w4 ⟨rfl, h1⟩
     have c1' : w4.cell? ⟨g, 1, none⟩ = some (.int .i64 (q : Int)) := (h1.cell (p := ⟨g, 1, none⟩) (Go.Proofs.YtgeengkdgdjcjaaGreat.cell_lt c1)).trans c1
     replace he := he.next h1
     clear h1 c1 c2 f2
     cases b3 : ((digest 4 4 (faText T p)).toList == (faSum T p).toList)
     · have E := hU (show faOk T p = false by simp [faOk, b3])
       have b3' : ((digest 4 4 (faText T p)).toList == (rdTake T (fa1 T p) 4).toList) = false := b3
       go_wp2_with fail
       go_ret3
       exact ⟨by rw [faRes, E.out]; rfl, he⟩
     · have b3' : ((digest 4 4 (faText T p)).toList == (rdTake T (fa1 T p) 4).toList) = true := b3
       have E := hU (show faOk T p = true by simp only [faOk, b1, b2, b3]; rfl)
       go_wp2_with fail
       go_quiet (fail)
       go_wp2_with fail
       go_ret3
       exact ⟨by rw [faRes, E.out, ← Hq.out]; rfl, he.drewN _⟩
 · have c2 : w3.cell? ⟨g, 2, none⟩ = some (.bool true) := by rw [← b1]; exact hB.cell 2
   have E := hU (show faOk T p = false by simp [faOk, b1])
   go_wp2_with fail
   go_ret3
   exact ⟨by rw [faRes, E.out]; rfl, he⟩
end Go.Proofs.YtgeengkdgdjcjaaGreat

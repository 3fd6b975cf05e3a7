/-
  HashRt; Brok; Found; Big: No condition.
-/
import Derived.Test.YtgeengkdgdjcjaaGreatInclI
import Derived.Test.YtgeengkdgdjcjaaGreatMapRec
import Derived.Test.YtgeengkdgdjcjaaGreatRoot5
import Derived.Test.YtgeengkdgdjcjaaGreatPre
import Derived.Test.YtgeengkdgdjcjaaGreatExtImpl
import Derived.Test.YtgeengkdgdjcjaaGreatTwoP
import Derived.Test.YtgeengkdgdjcjaaGreatBroker0
import Derived.Test.YtgeengkdgdjcjaaGreatRets
namespace Go.Proofs.YtgeengkdgdjcjaaGreat
set_option maxHeartbeats 2000000
set_option maxRecDepth 100000
set_option linter.unusedSimpArgs false
open Go.RowKit
set_option linter.unusedVariables false
theorem implHashesOf_good (n : Int) (hn : inR n 1 32 = true) (A : Option Addr) (c : Nat) (l : List EntryD) (w : World) (hr : SlF AnyB EntryD.cells 5 w A l c) (hok : ∀ d ∈ l, d.Ok) (hl : logOk l = true) (hl2 : l.length ≤ 1048576) :
 Calls Tryz.prog 23 #[.int .i64 n, .agg #[.slice A l.length c]] w fun e w' => ∃ v, e = .returned (.tuple #[v, .bool true]) ∧ RowT w.heap.size w' v (leavesH n l) ∧ Ext w w' := by
 have hx := Ext.new (Below.refl w.heap.size w) (.cells #[.slice A l.length c] 26)
 have H1 := hU (fun (W : World) (h : Ext w W) => implLogOk_any A c l W (hr.ext h) hok)
 have H2 := hU (fun (W : World) (h : Ext w W) => hashesOf_any n A c l W (hr.ext h) hok hl2)
 have HL : Hid ((l.map (leafH n)).length = l.length) := hU (by simp)
 obtain ⟨L, hL⟩ : ∃ L, L = l.length := ⟨_, rfl⟩
 rw [hl] at H1
 rw [← hL] at H1 H2 HL hx
 rw [← hL]
 have HX := hU hx
 have K0 := hU (Blk.new w 26 #[.slice A L c])
 clear hr hok hl hl2 hL hx
 go_enter Tryz.func23, Tryz.ntmps23
 go_wp2_with (go_at_call 53; refine (isWidth_any _ _).mono ?_; rintro e w' ⟨rfl, rfl⟩; rw [hn])
 refine (H1.out _ HX.out).mono ?_
 rintro e w1 ⟨rfl, h1⟩
 have HX1 := hU (HX.out.next h1)
 obtain ⟨r0, f0⟩ := (K0.out.ext h1).rules
 clear h1 H1 K0
 go_wp2_with fail
 refine (H2.out _ HX1.out).mono ?_
 rintro e w2 ⟨v, rfl, ho, h1⟩
 have HR := hU (show RowT w.heap.size w2 v (leavesH n l) from ownsRow_base (RowT.of ho HL.out.symm rfl) HX1.out.size)
 have HE := hU (HX1.out.next h1)
 clear h1 H2 ho
 go_wp2_with fail
 go_ret2
 exact ⟨_, rfl, HR.out, HE.out⟩
theorem implLeavesOk_good (n : Int) (A : Option Addr) (c : Nat) (l : List ByteArray) (w : World) (hr : ReadsL w w.heap.size sone 1 A l) (hl : l.length ≤ 512) (hn : inR n 1 32 = true) (hs : ∀ s ∈ l, s.size = n.toNat) :
 Calls Tryz.prog 77 #[.int .i64 n, .slice A l.length c] w fun e w' => e = .returned (.bool true) ∧ Ext w w' := by
 have h2 := inR_true hn
 have E : hashes n l = true := by
  rw [hashes, List.all_eq_true]
  intro s h
  rw [beq_iff_eq, hs s h]; omega
 have H := hU (areHashes_any n A c l w hr (by omega))
 rw [E] at H
 have hl2 : (l.length : Int) ≤ 512 := by omega
 clear hr hs E h2
 go_enter Tryz.func77, Tryz.ntmps77
 go_wp2_with (go_at_call 53; refine (isWidth_any _ _).mono ?_; rintro e w' ⟨rfl, rfl⟩; rw [hn])
 refine H.out.mono ?_
 rintro e w1 ⟨rfl, h1⟩
 go_wp2_with fail
 go_ret
 exact ⟨rfl, h1⟩
theorem implRootOf_good (wd : Int) (hwd : inR wd 1 32 = true) (l : List ByteArray) (A : Option Addr) (c : Nat) (w : World) (h5 : l.length ≤ 512) (hr : SlF AnyB sone 1 w A l c) (hs : ∀ s ∈ l, s.size = wd.toNat) :
 Calls Tryz.prog 24 #[.int .i64 wd, .slice A l.length c] w fun e w' => e = .returned (.tuple #[.string (treeR wd l), .bool true]) ∧ Ext w w' := by
 have H1 := hU (implLeavesOk_good wd A c l w hr.reads (by omega) hwd hs)
 have H2 := hU (fun (W : World) (h : Ext w W) => rootOf_any wd hwd 512 l A c W h5 h5 (hr.ext h) hs)
 obtain ⟨P, hP⟩ : ∃ P, P = treeR wd l := ⟨_, rfl⟩
 rw [← hP] at H2
 rw [← hP]
 obtain ⟨L, hL⟩ : ∃ L, L = l.length := ⟨_, rfl⟩
 rw [← hL] at H1 H2
 rw [← hL]
 clear hr hs hP hL h5
 go_enter Tryz.func24, Tryz.ntmps24
 go_wp2_with fail
 refine H1.out.mono ?_
 rintro e w1 ⟨rfl, h1⟩
 have HX := hU h1
 clear h1 H1
 go_wp2_with fail
 refine (H2.out _ HX.out).mono ?_
 rintro e w3 ⟨rfl, h1⟩
 have HE := hU (HX.out.next h1)
 clear h1 H2
 go_wp2_with fail
 go_ret2
 exact ⟨rfl, HE.out⟩
theorem implInclusion_good (wd : Int) (hwd : inR wd 1 32 = true) (m : Nat) (l : List ByteArray) (A : Option Addr) (c k : Nat) (w : World) (hm : l.length ≤ m) (h5 : m ≤ 512) (hk : k < l.length) (hr : SlF AnyB sone 1 w A l c) (hs : ∀ s ∈ l, s.size = wd.toNat) :
 Calls Tryz.prog 25 #[.int .i64 wd, .slice A l.length c, .int .i64 (k : Int)] w fun e w' => ∃ v, e = .returned (.tuple #[v, .bool true]) ∧ RowT w.heap.size w' v (inclN wd m l k) ∧ Ext w w' := by
 have H1 := hU (implLeavesOk_good wd A c l w hr.reads (by omega) hwd hs)
 have H2 := hU (fun (W : World) (h : Ext w W) => inclusion_any wd hwd m l A c k W hm h5 hk (hr.ext h) hs)
 obtain ⟨P, hP⟩ : ∃ P, P = inclN wd m l k := ⟨_, rfl⟩
 rw [← hP] at H2
 rw [← hP]
 obtain ⟨L, hL⟩ : ∃ L, L = l.length := ⟨_, rfl⟩
 rw [← hL] at H1 H2 hm hk
 rw [← hL]
 have k0 : ¬ (k : Int) < 0 := by omega
 have k1 : ¬ (L : Int) ≤ (k : Int) := by omega
 clear hr hs hP hL
 go_enter Tryz.func25, Tryz.ntmps25
 go_wp2_with fail
 refine H1.out.mono ?_
 rintro e w1 ⟨rfl, h1⟩
 have HX := hU h1
 clear h1 H1
 go_wp2_with fail
 refine (H2.out _ HX.out).mono ?_
 rintro e w3 ⟨v, rfl, hr, h1⟩
 have HR := hU (show RowT w.heap.size w3 v P from ownsRow_base hr HX.out.size)
 have HE := hU (HX.out.next h1)
 clear hr h1 H2
 go_wp2_with fail
 go_ret2
 exact ⟨_, rfl, HR.out, HE.out⟩
set_option maxHeartbeats 1000000
theorem broken_yes (n : Int) (a b : PreD) (w : World) (ha : a.Ok) (hb : b.Ok) (h : brokenB n a b = true) : Calls Tryz.prog 38 #[.int .i64 n, .agg #[.int .i64 a.tag, .string a.text], .agg #[.int .i64 b.tag, .string b.text]] w fun e w' => e = .returned (.bool true) ∧ Ext w w' := by
 obtain ⟨B0, B1, he⟩ := two_blks w #[.int .i64 a.tag, .string a.text] #[.int .i64 b.tag, .string b.text] 88 88
 obtain ⟨r1, r2⟩ := B0.rules
 obtain ⟨r3, r4⟩ := B1.rules
 have hq := PreD.run_neq a b
 have hq2 := PreD.run_eql a b
 simp only [brokenB, Bool.and_eq_true, Bool.not_eq_true'] at h
 obtain ⟨⟨⟨c1, c2⟩, c3⟩, c4⟩ := h
 obtain ⟨_, k1⟩ := ha
 obtain ⟨_, k2⟩ := hb
 have K0 := hU B0; have K1 := hU B1; have He := hU he
 clear B0 B1 he
 go_enter Tryz.func38, Tryz.ntmps38
 go_wp2_with fail
 obtain ⟨g, hg⟩ : ∃ g, g = w.heap.size := ⟨_, rfl⟩
 rw [← hg] at K0 K1
 rw [← hg]
 clear r1 r2 r3 r4 hg
 refine (specDigest_any n a.tag a.text _ k1).mono ?_
 rintro e w1 ⟨rfl, h1⟩
 have K0' := K0.out.ext h1; have K1' := K1.out.ext h1; have he := He.out.next h1
 clear h1 K0 K1 He
 obtain ⟨r1, r2⟩ := K0'.rules
 obtain ⟨r3, r4⟩ := K1'.rules
 go_wp2_with fail
 refine (specDigest_any n b.tag b.text _ k2).mono ?_
 rintro e w2 ⟨rfl, h1⟩
 have K0 := K0'.ext h1; have K1 := K1'.ext h1; replace he := he.next h1
 clear h1 K0' K1' r1 r2 r3 r4
 obtain ⟨r1, r2⟩ := K0.rules
 obtain ⟨r3, r4⟩ := K1.rules
 rw [c4] at hq hq2
 rw [c2]
 clear c1 c2 c4
 go_wp2_with fail
 go_ret
 exact ⟨rfl, he⟩
set_option maxHeartbeats 4000000
theorem ex_ok {n : Int} {l : List ItemD} (h : exOk n l = true) : (exA n l).Ok ∧ (exB n l).Ok := by
 unfold exOk at h
 split at h
 · rename_i h2
   rw [exA, exB, if_pos h2, if_pos h2]
   obtain ⟨m1, m2⟩ := meet_mem h
   exact ⟨presUp_ok n l _ _ m1, presUp_ok n l _ _ m2⟩
 · cases h
theorem found_yes (n : Int) (A : Option Addr) (c : Nat) (l : List ItemD) (w : World) (hr : SlN AnyB ItemD.In 22 w A l c) (hok : ∀ d ∈ l, d.Ok) (hl : l.length ≤ 1048576) (hf : ∀ x ∈ l, ∀ n ∈ x.lens, n ≤ 1048576) (h1 : exOk n l = true) (h2 : brokenB n (exA n l) (exB n l) = true) :
 Calls Tryz.prog 28 #[.int .i64 n, .slice A l.length c] w fun e w' => e = .returned (.bool true) ∧ Ext w w' := by
 have EX := hU (fun (W : World) (h : Ext w W) => implExtract_any n A c l W (hr.ext ItemD.steady h) hok hl hf)
 obtain ⟨k1, k2⟩ := ex_ok h1
 rw [h1] at EX
 obtain ⟨X, hX⟩ : ∃ X, X = exA n l := ⟨_, rfl⟩
 obtain ⟨Y, hY⟩ : ∃ Y, Y = exB n l := ⟨_, rfl⟩
 rw [← hX, ← hY] at EX h2
 rw [← hX] at k1
 rw [← hY] at k2
 obtain ⟨L, hL⟩ : ∃ L, L = l.length := ⟨_, rfl⟩
 rw [← hL] at EX
 rw [← hL]
 have BR := hU (fun (W : World) => broken_yes n X Y W k1 k2 h2)
 clear hr hok hl hf h1 h2 hX hY hL k1 k2
 go_enter Tryz.func28, Tryz.ntmps28
 go_wp2_with fail
 refine (EX.out _ (Below.refl _ _)).mono ?_
 rintro e w1 ⟨rfl, h1⟩
 obtain ⟨B0, B1, he⟩ := two_blks w1 #[.int .i64 X.tag, .string X.text] #[.int .i64 Y.tag, .string Y.text] 88 88
 obtain ⟨r1, r2⟩ := B0.rules
 obtain ⟨r3, r4⟩ := B1.rules
 have HE := hU (h1.next he)
 clear h1 he EX B0 B1
 go_wp2_with fail
 refine (BR.out _).mono ?_
 rintro e w2 ⟨rfl, h2⟩
 have HE2 := hU (HE.out.next h2)
 clear h2 HE r1 r2 r3 r4 BR
 go_wp2_with fail
 go_ret
 exact ⟨rfl, HE2.out⟩
theorem big_any (A : Option Addr) (n c : Nat) (w : World) (h : n ≤ maxLen) : Calls Tryz.prog 8 #[.slice A n c] w fun e w' => e = .returned (.bool (decide (1048576 < n))) ∧ w = w' := by
 by_cases hb : 1048576 < n
 · have hd : decide (1048576 < n) = true := decide_eq_true hb
   rw [hd]
   go_enter Tryz.func8, Tryz.ntmps8
   go_wp2_with fail
   go_ret
   exact ⟨ret_bool (by simp; omega), rfl⟩
 · have hd : decide (1048576 < n) = false := decide_eq_false hb
   rw [hd]
   go_enter Tryz.func8, Tryz.ntmps8
   go_wp2_with fail
   go_ret
   exact ⟨ret_bool (by simp; omega), rfl⟩
end Go.Proofs.YtgeengkdgdjcjaaGreat

/-
  SpIncl: No condition.
-/
import Derived.Test.YtgeengkdgdjcjaaInclS
namespace Go.Proofs.Ytgeengkdgdjcjaa
set_option maxHeartbeats 2000000
set_option maxRecDepth 100000
set_option linter.unusedSimpArgs false
open Go.RowKit
set_option linter.unusedVariables false
theorem specLeavesOk_good (n : Int) (A : Option Addr) (c : Nat) (l : List ByteArray) (w : World) (hr : ReadsL w w.heap.size sone 1 A l) (hl : l.length ≤ 512) (hn : inR n 1 32 = true) (hs : ∀ s ∈ l, s.size = n.toNat) :
 Calls Try.prog 6 #[.int .i64 n, .slice A l.length c] w fun e w' => e = .returned (.bool true) ∧ Ext w w' := by
 have h2 := inR_true hn
 have E : (hashes n l && inR n 1 32) = true := by
  rw [hn, Bool.and_true, hashes, List.all_eq_true]
  intro s h
  rw [beq_iff_eq, hs s h]; omega
 have H := hU (l04Hashes_any n A c l w hr (by omega))
 rw [E] at H
 have hl2 : (l.length : Int) ≤ 512 := by omega
 clear hr hs E h2
 go_enter Try.func6, Try.ntmps6
 go_wp2_with fail
 refine H.out.mono ?_
 rintro e w1 ⟨rfl, h1⟩
 go_wp2_with fail
 go_ret
 exact ⟨rfl, h1⟩
theorem specInclusion_good (wd : Int) (hwd : inR wd 1 32 = true) (m : Nat) (l : List ByteArray) (A : Option Addr) (c k : Nat) (w : World) (hm : l.length ≤ m) (h5 : m ≤ 512) (hk : k < l.length) (hr : SlF AnyB sone 1 w A l c) (hs : ∀ s ∈ l, s.size = wd.toNat) :
 Calls Try.prog 9 #[.int .i64 wd, .slice A l.length c, .int .i64 (k : Int)] w fun e w' => ∃ v, e = .returned (.tuple #[v, .bool true]) ∧ RowT w.heap.size w' v (inclN wd m l k) ∧ Ext w w' := by
 have H1 := hU (specLeavesOk_good wd A c l w hr.reads (by omega) hwd hs)
 have H2 := hU (fun (W : World) (h : Ext w W) => l05Inclusion_any wd hwd m l A c k W hm h5 hk (hr.ext h) hs)
 obtain ⟨P, hP⟩ : ∃ P, P = inclN wd m l k := ⟨_, rfl⟩
 rw [← hP] at H2
 rw [← hP]
 obtain ⟨L, hL⟩ : ∃ L, L = l.length := ⟨_, rfl⟩
 rw [← hL] at H1 H2 hm hk
 rw [← hL]
 have e1 : (L : Int) - 1 = ((L - 1 : Nat) : Int) := by omega
 have e2 : IntKind.i64.wrap ((L - 1 : Nat) : Int) = ((L - 1 : Nat) : Int) := IntWalk.i64_in _ (by omega)
 have hi : inR (k : Int) 0 ((L - 1 : Nat) : Int) = true := by simp [inR]; omega
 have HI := hU hi
 clear hr hs hP hL hi
 go_enter Try.func9, Try.ntmps9
 go_wp2_with fail
 refine H1.out.mono ?_
 rintro e w1 ⟨rfl, h1⟩
 have HX := hU h1
 clear h1 H1
 go_wp2_with fail
 refine (l01In_any _ _ _ _).mono ?_
 rintro e w2 ⟨rfl, rfl⟩
 rw [HI.out]
 go_wp2_with fail
 refine (H2.out _ HX.out).mono ?_
 rintro e w3 ⟨v, rfl, hr, h1⟩
 have HR := hU (show RowT w.heap.size w3 v P from ownsRow_base hr HX.out.size)
 have HE := hU (HX.out.next h1)
 clear hr h1 H2
 go_wp2_with fail
 go_ret2
 exact ⟨_, rfl, HR.out, HE.out⟩
end Go.Proofs.Ytgeengkdgdjcjaa

/-
  TwoW: No condition.
-/
import Derived.Test.YtgeengkdgdjcjaaSpIncl
import Derived.BigQuiet
namespace Go.Proofs.Ytgeengkdgdjcjaa
set_option linter.unusedSimpArgs false
open Go.RowKit
set_option linter.unusedVariables false
theorem specLeavesOk_any (n : Int) (A : Option Addr) (c : Nat) (l : List ByteArray) (w : World) (hr : ReadsL w w.heap.size sone 1 A l) (hl : l.length ≤ 1048576) :
 Calls Try.prog 6 #[.int .i64 n, .slice A l.length c] w fun e w' => e = .returned (.bool (decide (l.length ≤ 512) && (hashes n l && inR n 1 32))) ∧ Ext w w' := by
 have H := hU (l04Hashes_any n A c l w hr (by omega))
 by_cases h5 : l.length ≤ 512
 · have hd : decide (l.length ≤ 512) = true := decide_eq_true h5
   rw [hd]
   have hl2 : (l.length : Int) ≤ 512 := by omega
   clear hr h5
   go_enter Try.func6, Try.ntmps6
   go_wp2_with fail
   refine H.out.mono ?_
   rintro e w1 ⟨rfl, h1⟩
   go_wp2_with fail
   go_ret
   exact ⟨rfl, h1⟩
 · have hd : decide (l.length ≤ 512) = false := decide_eq_false h5
   rw [hd]
   have hl2 : ¬ (l.length : Int) ≤ 512 := by omega
   clear hr h5 H
   go_enter Try.func6, Try.ntmps6
   go_wp2_with fail
   go_ret
   exact ⟨rfl, Below.refl _ _⟩
theorem specRootOf_good (wd : Int) (hwd : inR wd 1 32 = true) (l : List ByteArray) (A : Option Addr) (c : Nat) (w : World) (h5 : l.length ≤ 512) (hr : SlF AnyB sone 1 w A l c) (hs : ∀ s ∈ l, s.size = wd.toNat) :
 Calls Try.prog 8 #[.int .i64 wd, .slice A l.length c] w fun e w' => e = .returned (.tuple #[.string (treeR wd l), .bool true]) ∧ Ext w w' := by
 have H1 := hU (specLeavesOk_good wd A c l w hr.reads (by omega) hwd hs)
 have H2 := hU (fun (W : World) (h : Ext w W) => l05Root_any wd hwd 512 l A c W h5 h5 (hr.ext h) hs)
 obtain ⟨P, hP⟩ : ∃ P, P = treeR wd l := ⟨_, rfl⟩
 rw [← hP] at H2
 rw [← hP]
 obtain ⟨L, hL⟩ : ∃ L, L = l.length := ⟨_, rfl⟩
 rw [← hL] at H1 H2
 rw [← hL]
 clear hr hs hP hL
 go_enter Try.func8, Try.ntmps8
 go_wp2_with fail
 refine H1.out.mono ?_
 rintro e w1 ⟨rfl, h1⟩
 have HX := hU h1
 clear h1 H1
 go_wp2_with fail
 refine (H2.out _ HX.out).mono ?_
 rintro e w3 ⟨rfl, h1⟩
 go_wp2_with fail
 go_ret2
 exact ⟨rfl, HX.out.next h1⟩
theorem same_at {l m : List ByteArray} {k : Nat} {d e : ByteArray} (hk : ∀ i x y, i < k → l[i]? = some x → m[i]? = some y → x = y) (hd : l[k]? = some d) (he : m[k]? = some e) (h : d = e) : ∀ i x y, i < k + 1 → l[i]? = some x → m[i]? = some y → x = y := by
 intro i x y hi hx hy
 rcases Nat.lt_or_ge i k with h' | h'
 · exact hk i x y h' hx hy
 · obtain rfl : i = k := by omega
   rw [hd] at hx; rw [he] at hy; cases hx; cases hy; exact h
theorem sameTexts_any (A A' : Option Addr) (c c' : Nat) (l m : List ByteArray) (w : World) (hr : SlF AnyB sone 1 w A l c) (hr' : SlF AnyB sone 1 w A' m c') (hlm : l.length = m.length) (hl : l.length ≤ 1048576) :
 Calls Try.prog 10 #[.slice A l.length c, .slice A' m.length c'] w fun e w' => e = .returned (.bool (decide (l = m))) ∧ Ext w w' := by
 have H1 := hU hr; have H2 := hU hr'
 clear hr hr'
 obtain ⟨N, hN⟩ : ∃ N, N = l.length := ⟨_, rfl⟩
 have hm : m.length = N := by omega
 have hNb : N ≤ 1048576 := by omega
 have HN := hU hN; have HM := hU hm
 rw [← hN, hm]
 clear hlm hN hm
 go_enter Try.func10, Try.ntmps10
 go_wp2_with fail
 go_loopw [5] (fun i wr => ∃ (k : Nat), k ≤ N ∧ i = .int .i64 k ∧ (∀ i x y, i < k → l[i]? = some x → m[i]? = some y → x = y) ∧ Ext w wr) (fun i _ => N - (intOf i).toNat)
 case atStart => exact ⟨0, Nat.zero_le _, rfl, fun i x y h => absurd h (Nat.not_lt_zero i), Below.refl _ _⟩
 case round =>
  obtain ⟨k, hk, rfl, hsm, he⟩ := hrel
  have HS := hU hsm
  clear hsm
  by_cases hlt : k < N
  case neg =>
   have e : l = m := by
    refine List.ext_getElem (by rw [← HN.out, HM.out]) (fun i h1 h2 => HS.out i _ _ ?_ (List.getElem?_eq_getElem h1) (List.getElem?_eq_getElem h2))
    have := HN.out
    omega
   have HD := hU (show decide (l = m) = true from decide_eq_true e)
   clear e
   go_wp2_with fail
   go_ret
   exact ⟨by rw [HD.out]; rfl, he⟩
  obtain ⟨b, off, rfl, hb, hc⟩ := Reads.at_ (H1.out.ext he).reads (k := k) (by rw [← HN.out]; exact hlt)
  obtain ⟨b', off', rfl, hb', hc'⟩ := Reads.at_ (H2.out.ext he).reads (k := k) (by rw [HM.out]; exact hlt)
  obtain ⟨d, hdl⟩ : ∃ d, l[k]? = some d := ⟨_, List.getElem?_eq_getElem (by rw [← HN.out]; exact hlt)⟩
  obtain ⟨f, hfl⟩ : ∃ f, m[k]? = some f := ⟨_, List.getElem?_eq_getElem (by rw [HM.out]; exact hlt)⟩
  have c0 := hc 0 _ (flat_at _ 1 sone_length l k 0 d hdl (by omega))
  have b0 := hc' 0 _ (flat_at _ 1 sone_length m k 0 f hfl (by omega))
  rw [Nat.add_zero, Nat.mul_one] at c0 b0
  have HE := hU he
  have HK1 := hU (show k + 1 ≤ N from hlt)
  have SN := hU (fun h : d = f => same_at HS.out hdl hfl h)
  have SF : Hid (d ≠ f → l ≠ m) := hU (fun h e => h (by rw [e, hfl] at hdl; cases hdl; rfl))
  clear hc hc' hdl hfl he HS
  by_cases hq : d = f
  case neg =>
   have ES : (d.toList == f.toList) = false := by simp [bytes_eq_iff, hq]
   have HD := hU (show decide (l = m) = false from decide_eq_false (SF.out hq))
   clear hq
   go_wp2_with fail
   go_quiet (fail)
   go_wp2_with fail
   go_ret
   exact ⟨by rw [HD.out]; rfl, ⟨HE.out.os, HE.out.tape, HE.out.output, HE.out.size, HE.out.block⟩⟩
  subst hq
  have ES : (d.toList == d.toList) = true := by simp
  have SN' := hU (SN.out rfl)
  clear SN SF
  go_wp2_with fail
  go_quiet (fail)
  go_wp2_with fail
  go_roundw
  case rel => exact ⟨k + 1, HK1.out, by go_num, SN'.out, ⟨HE.out.os, HE.out.tape, HE.out.output, HE.out.size, HE.out.block⟩⟩
  case measure => have := HK1.out; simp [intOf]; omega
end Go.Proofs.Ytgeengkdgdjcjaa

/-
  TakeT; Root5; Bits; PathOps; Root6; SpecR: No condition.
-/
import Derived.Test.YtgeengkdgdjcjaaGreatSealB
import Derived.Test.YtgeengkdgdjcjaaGreatSealP
import Derived.Test.YtgeengkdgdjcjaaGreatSpFile
import Derived.Test.YtgeengkdgdjcjaaGreatMem
import Derived.Laws.MathBits
import Derived.Test.YtgeengkdgdjcjaaGreatMerkle
import Derived.Test.YtgeengkdgdjcjaaGreatBunch
import Derived.Test.YtgeengkdgdjcjaaGreatBroker1
import Derived.Test.YtgeengkdgdjcjaaGreatStoreL
import Derived.Test.YtgeengkdgdjcjaaGreatHeadRead
import Derived.Test.YtgeengkdgdjcjaaGreatGrowA
namespace Go.Proofs.YtgeengkdgdjcjaaGreat
set_option linter.unusedSimpArgs false
open Go.RowKit
set_option linter.unusedVariables false
def taCode (b : BrokerD) (r : ReceiptD) : Nat := if brokerB b then tkCode b r else 1
def taB (b : BrokerD) (r : ReceiptD) : BrokerD := if taCode b r = 0 then tkB b r else noB
def taW (b : BrokerD) (r : ReceiptD) : List WriteD := if taCode b r = 0 then [writeW b 2 (receiptText r)] else []
theorem ta_bad {b : BrokerD} {r : ReceiptD} {k : Nat} (h : taCode b r = k) (h0 : k ≠ 0) : taB b r = noB ∧ taW b r = [] := by
 have : ¬ taCode b r = 0 := by omega
 exact ⟨by rw [taB, if_neg this], by rw [taW, if_neg this]⟩
theorem ta_good {b : BrokerD} {r : ReceiptD} (h : taCode b r = 0) : taB b r = tkB b r ∧ taW b r = [writeW b 2 (receiptText r)] := ⟨by rw [taB, if_pos h], by rw [taW, if_pos h]⟩
theorem ta_end {b : BrokerD} {r : ReceiptD} {k : Nat} {w w' : World} {e : Ending} {vw : Value} (h : taCode b r = k) (h0 : k ≠ 0) (he : e = .returned (.tuple #[.agg #[.int .i64 0, .slice none 0 0, .slice none 0 0, .slice none 0 0, .int .i64 0, .slice none 0 0, .int .i64 0, .slice none 0 0, .int .i64 0, .int .i64 0, .string ⟨#[]⟩, .int .i64 0, .string ⟨#[]⟩], vw, .int .i64 (k : Int)])) (ho : w'.ownsRow w.heap.size 63 3 vw 0 []) (hx : Ext w w') : BrAns (taB b r) (taW b r) (taCode b r) w e w' := by
 rw [(ta_bad h h0).1, (ta_bad h h0).2, h]; exact BrAns.bad he ho hx
theorem specNodeHash_good (n : Int) (a b : ByteArray) (w : World) (hn : inR n 1 32 = true) (ha : a.size = n.toNat) (hb : b.size = n.toNat) : Calls Tryz.prog 279 #[.int .i64 n, .string a, .string b] w fun e w' => e = .returned (.tuple #[.string (nodeT n (a ++ b)), .bool true]) ∧ Ext w w' := by
 have hn2 := inR_true hn
 have h1 : (a.size : Int) = n := by omega
 have h2 : (b.size : Int) = n := by omega
 have h3 : (a ++ b).size ≤ 4000 := by rw [ByteArray.size_append]; omega
 have E : digestOk n 1 (a ++ b) = true := by rw [digestOk, hn]; simp [inR]; rw [ByteArray.size_append] at h3; omega
 have E := hU E
 have ha2 : a.size ≤ 1000 := by omega
 have hb2 : b.size ≤ 1000 := by omega
 have hs : (a ++ b).size ≤ maxLen := by unfold maxLen; omega
 clear ha hb h3 hn2
 go_enter Tryz.func279, Tryz.ntmps279
 go_wp2_with fail
 refine (l02Width_any n _).mono ?_
 rintro e w1 ⟨rfl, rfl⟩
 go_wp2_with fail
 refine (specDigest_any n 1 (a ++ b) _ hs).mono ?_
 rintro e w1 ⟨rfl, he⟩
 rw [E.out]
 go_wp2_with fail
 go_ret2
 exact ⟨rfl, he⟩

set_option maxHeartbeats 1000000
theorem hashes_no {w : Int} {l : List ByteArray} {k : Nat} (hk : k < l.length) (h : ((l[k].size : Int) == w) = false) : hashes w l = false := by
 rw [hashes, List.all_eq_false]
 exact ⟨l[k], List.getElem_mem hk, by simpa using h⟩
theorem hashes_up {w : Int} {l : List ByteArray} (h : ∀ k (hk : k < l.length), ((l[k].size : Int) == w) = true) : hashes w l = true := by
 rw [hashes, List.all_eq_true]
 intro x hx
 obtain ⟨k, hk, rfl⟩ := List.getElem_of_mem hx
 exact h k hk
theorem l04Hashes_any (n : Int) (A : Option Addr) (c : Nat) (l : List ByteArray) (w : World) (hr : ReadsL w w.heap.size sone 1 A l) (hl : l.length ≤ 1048576) :
 Calls Tryz.prog 241 #[.int .i64 n, .slice A l.length c] w fun e w' => e = .returned (.bool (hashes n l && inR n 1 32)) ∧ Ext w w' := by
 go_enter Tryz.func241, Tryz.ntmps241
 go_wp2_with fail
 go_loopw [5] (fun i wr => ∃ (k : Nat), k ≤ l.length ∧ i = .int .i64 k ∧ (∀ j (hj : j < l.length), j < k → ((l[j].size : Int) == n) = true) ∧ Ext w wr) (fun i _ => l.length - (intOf i).toNat)
 case atStart => exact ⟨0, Nat.zero_le _, rfl, fun j _ h => absurd h (Nat.not_lt_zero _), Below.refl _ _⟩
 case round =>
  obtain ⟨k, hk, rfl, hall, he⟩ := hrel
  have Hall := hU hall; clear hall
  by_cases hlt : k < l.length
  · obtain ⟨b, off, rfl, hb, hc⟩ := Reads.at_ (hr.ext he) (k := k) hlt
    have hdl : l[k]? = some l[k] := List.getElem?_eq_getElem hlt
    have c0 := hc 0 _ (flat_at _ 1 sone_length l k 0 _ hdl (by omega))
    rw [Nat.add_zero, Nat.mul_one] at c0
    clear hc hdl
    have hd : decide ((k : Int) < (l.length : Int)) = true := by rw [decide_eq_true_iff]; omega
    cases b1 : ((l[k].size : Int) == n)
    · have E := hU (hashes_no hlt b1)
      have b2 := ne_of_beq b1
      generalize l[k] = x at *
      go_wp2_with fail
      go_ret
      exact ⟨ret_bool (by rw [E.out]; rfl), he⟩
    · have Hn : Hid (∀ j (hj : j < l.length), j < k + 1 → ((l[j].size : Int) == n) = true) := hU (fun j hj h => by
       rcases Nat.lt_or_ge j k with h1 | h1
       · exact Hall.out j hj h1
       · obtain rfl : j = k := by omega
         exact b1)
      have b2 := ne_of_beq b1
      clear Hall
      generalize l[k] = x at *
      go_wp2_with fail
      go_roundw
      case rel => exact ⟨k + 1, by omega, by go_num, Hn.out, he⟩
      case measure => simp [intOf]; omega
  · have E := hU (hashes_up (fun j hj => Hall.out j hj (by omega)))
    have hd : decide ((k : Int) < (l.length : Int)) = false := by rw [decide_eq_false_iff_not]; omega
    go_wp2_with (go_at_call 103; refine (l02Width_any _ _).mono ?_; rintro e w' ⟨rfl, rfl⟩)
    go_ret
    exact ⟨ret_bool (by rw [E.out]; rfl), he⟩

set_option maxHeartbeats 2000000
set_option maxRecDepth 100000
theorem info_int : (Tryz.prog.info? 3).map (fun i => (i.zero, i.size, i.bytes)) = some (some (.int .i64 0), 1, 8) := by kernel_rfl
def pkN (n : Int) : Nat := if inR n 0 512 then pc n.toNat else 0
theorem pkN_of {N : Nat} (h : N ≤ 512) : pkN (N : Int) = pc N := by
 have : inR (N : Int) 0 512 = true := by simp [inR]; omega
 rw [pkN, if_pos this]; rfl
theorem pkN_le (n : Int) : pkN n ≤ 512 := by
 unfold pkN
 split
 · rename_i h
   have := inR_true h
   have := pc_le n.toNat
   omega
 · omega
def pkAt (N p : Nat) : Nat := if p = 0 then pc N else pc (N / (2 * p))
theorem pkAt_next {N p : Nat} (h : p = 1 ∨ ∃ q, p = 2 * q ∧ 0 < q) : pkAt N (p / 2) = N / p % 2 + pkAt N p := by
 rcases h with rfl | ⟨q, rfl, hq⟩
 · simp only [pkAt, Nat.div_one]
   exact pc_step N
 · have e1 : 2 * q / 2 = q := by omega
   have e2 : N / (2 * (2 * q)) = N / (2 * q) / 2 := by rw [Nat.mul_comm 2 (2 * q), ← Nat.div_div_eq_div_mul]
   rw [e1, pkAt, pkAt, if_neg (by omega), if_neg (by omega), e2]
   exact pc_step _
theorem PeaksOf_any (n : Int) (w : World) : Calls Tryz.prog 278 #[.int .i64 n] w fun e w' => ∃ A c, e = .returned (.slice A (pkN n) c) ∧ Ext w w' := by
 have He := hU (Ext.new (Below.refl w.heap.size w) (.cells #[] 3))
 have OE := hU (ownsRow_empty w 3 1)
 obtain ⟨i0, hi, hz0, hz1, hz2⟩ := info_parts info_int
 cases b1 : inR n 0 512
 · have E := hU (show pkN n = 0 by rw [pkN, b1]; rfl)
   go_enter Tryz.func278, Tryz.ntmps278
   go_wp2_with (go_at_call 159; refine (l04Size_any _ _).mono ?_; rintro e w' ⟨rfl, rfl⟩)
   go_ret
   exact ⟨_, _, by rw [E.out]; rfl, He.out⟩
 obtain ⟨N, rfl, hN⟩ : ∃ N : Nat, n = (N : Int) ∧ N ≤ 512 := ⟨n.toNat, by have := inR_true b1; omega, by have := inR_true b1; omega⟩
 have F := hU (pkN_of hN)
 go_enter Tryz.func278, Tryz.ntmps278
 go_wp2_with (go_at_call 159; refine (l04Size_any _ _).mono ?_; rintro e w' ⟨rfl, rfl⟩)
 clear b1
 go_loopw [3, 4] (fun v i wr => ∃ (p k : Nat) (xs : List Value), i = .int .i64 (p : Int) ∧ (p = 0 ∨ p = 1 ∨ ∃ q j, p = 2 * q ∧ q = 2 ^ j ∧ j ≤ 8) ∧ k = pkAt N p ∧ k ≤ 512 ∧ wr.ownsRow w.heap.size 3 1 v k xs ∧ Ext w wr) (fun _ i _ => (intOf i).toNat)
 case atStart =>
  refine ⟨512, 0, [], rfl, Or.inr (Or.inr ⟨256, 8, rfl, rfl, by omega⟩), ?_, by omega, OE.out, He.out⟩
  have : N / (2 * 512) = 0 := by omega
  rw [pkAt, if_neg (by omega), this]; rfl
 case round =>
  clear OE He
  obtain ⟨p, k, xs, rfl, hp, hk, hk5, hown, he⟩ := hrel
  obtain ⟨V, cv, rfl, hnc⟩ := ownsRow_form hown
  have KO := hU hown; clear hown
  have HK := hU hk; have HP := hU hp
  clear hk hp
  by_cases h0 : p = 0
  · subst h0
    have E := hU (show k = pkN (N : Int) by rw [HK.out, F.out]; rfl)
    go_wp2_with fail
    go_ret
    exact ⟨⟨_, _, by rw [← E.out]; rfl⟩, he⟩
  have hpp : 0 < p := by omega
  have hp5 : p ≤ 512 := by
   rcases HP.out with h | h | ⟨q, j, h1, h2, h3⟩
   · omega
   · omega
   · have : q ≤ 2 ^ 8 := by rw [h2]; exact Nat.pow_le_pow_right (by omega) h3
     omega
  have NX := hU (pkAt_next (N := N) (p := p) (by
   rcases HP.out with h | h | ⟨q, j, h1, h2, h3⟩
   · omega
   · exact Or.inl h
   · exact Or.inr ⟨q, h1, by rw [h2]; exact Nat.two_pow_pos _⟩))
  have HP2 : Hid (p / 2 = 0 ∨ p / 2 = 1 ∨ ∃ q j, p / 2 = 2 * q ∧ q = 2 ^ j ∧ j ≤ 8) := hU (by
   rcases HP.out with h | h | ⟨q, j, h1, h2, h3⟩
   · omega
   · exact Or.inl (by omega)
   · refine Or.inr ?_
     cases j with
     | zero => exact Or.inl (by simp at h2; omega)
     | succ j => exact Or.inr ⟨2 ^ j, j, by rw [h1, h2, Nat.pow_succ]; omega, rfl, by omega⟩)
  clear HP
  have hdN : N / p ≤ 512 := Nat.le_trans (Nat.div_le_self _ _) hN
  have t1 : Int.tdiv (N : Int) (p : Int) = ((N / p : Nat) : Int) := by rw [Int.tdiv_eq_ediv_of_nonneg (by omega)]; rfl
  have t2 : Int.tdiv (p : Int) 2 = ((p / 2 : Nat) : Int) := by rw [Int.tdiv_eq_ediv_of_nonneg (by omega)]; rfl
  obtain ⟨d, hd⟩ : ∃ d, d = N / p := ⟨_, rfl⟩
  rw [← hd] at t1 NX hdN
  obtain ⟨p2, hp2⟩ : ∃ p2, p2 = p / 2 := ⟨_, rfl⟩
  rw [← hp2] at t2 NX HP2
  have hp2l : p2 < p := by omega
  have t3 : Int.tmod (d : Int) 2 = ((d % 2 : Nat) : Int) := by rw [Int.tmod_eq_emod_of_nonneg (by omega)]; rfl
  have pne : ¬ (p : Int) = 0 := by omega
  clear hd hp2
  rcases Nat.mod_two_eq_zero_or_one d with h2 | h2
  · rw [h2] at t3
    have E := hU (show k = pkAt N p2 by rw [NX.out, h2, ← HK.out]; omega)
    have t3 : Int.tmod (d : Int) 2 = 0 := t3
    clear h2 NX
    go_wp2_with fail
    go_roundw
    case rel => exact ⟨p2, k, xs, rfl, HP2.out, E.out, hk5, KO.out, he⟩
    case measure => simp [intOf]; omega
  · rw [h2] at t3
    have E := hU (show k + 1 = pkAt N p2 by rw [NX.out, h2, ← HK.out]; omega)
    have t3 : Int.tmod (d : Int) 2 = 1 := t3
    have hk1 : k + 1 ≤ 512 := by
     rw [E.out]
     have : pkAt N p2 ≤ N := by
      unfold pkAt
      split
      · exact pc_le N
      · exact Nat.le_trans (pc_le _) (Nat.div_le_self _ _)
     omega
    clear h2 NX
    go_wp2_with (at_builtin; refine wpList_append_moved _ rfl _ _ 43 rfl w.heap.size 3 i0 _ 1 8 Tryz.underlying43 hi hz0 hz1 hz2 rfl (by decide) _ _ _ rfl (KO.out.alloc _) ⟨wr.heap.size, 0, none⟩ 1 1 [.int .i64 (p : Int)] rfl rfl ?c1 ?c2 ?c3 ?c4 ?c5 ?_)
    case c1 => exact (Blk.new wr 3 #[.int .i64 (p : Int)]).adds
    case c2 => intro u hu; simp at hu; subst hu; rfl
    case c3 => unfold maxLen; omega
    case c4 => omega
    case c5 => have := he.size; simp; omega
    intro v' w2 hown' hfrm hmv
    have L0 := hU KO.out.lt
    have he2 : Ext w w2 := hfrm.toExt (he.new _) (fun y hy e => by have := (L0.out _ e).1; omega)
    have O2 := hU hown'
    clear hown' hfrm hmv L0 KO he
    go_wp2_with fail
    go_roundw
    case rel => exact ⟨p2, k + 1, _, rfl, HP2.out, E.out, hk1, O2.out, he2⟩
    case measure => simp [intOf]; omega
theorem RangeOk_any (wd : Int) (r : RangeD) (A : Option Addr) (c : Nat) (w : World) (hr : ReadsL w w.heap.size sone 1 A r.peaks) (hl : r.peaks.length ≤ 1048576) :
 Calls Tryz.prog 277 #[.int .i64 wd, .agg #[.int .i64 r.size, .slice A r.peaks.length c]] w fun e w' => e = .returned (.bool (rangeOkB wd r)) ∧ Ext w w' := by
 have K0 := hU (Blk.new w 31 #[.int .i64 r.size, .slice A r.peaks.length c])
 have He := hU (Ext.new (Below.refl w.heap.size w) (.cells #[.int .i64 r.size, .slice A r.peaks.length c] 31))
 have HR := hU (hr.ext He.out)
 obtain ⟨fin, hfin⟩ : ∃ fin, fin = rangeOkB wd r := ⟨_, rfl⟩
 rw [← hfin]
 have F := hU (show fin = (inR r.size 0 512 && decide (r.peaks.length = pc r.size.toNat) && (hashes wd r.peaks && inR wd 1 32)) from hfin)
 obtain ⟨L, hL⟩ : ∃ L, L = r.peaks.length := ⟨_, rfl⟩
 have hln : L ≤ 1048576 := by omega
 have HC := hU (fun (W : World) (hW : ReadsL W W.heap.size sone 1 A r.peaks) => l04Hashes_any wd A c r.peaks W hW hl)
 rw [← hL] at K0 He HC F HR
 rw [← hL]
 clear hfin hr hL hl
 go_enter Tryz.func277, Tryz.ntmps277
 go_wp2_with fail
 obtain ⟨g, hg⟩ : ∃ g, g = w.heap.size := ⟨_, rfl⟩
 rw [← hg] at K0
 rw [← hg]
 clear hg
 have ke := K0.out; have he := He.out; have hrd := HR.out
 clear K0 He HR
 generalize w.alloc (.cells #[.int .i64 r.size, .slice A L c] 31) = w1 at *
 refine wp_region_held_drew (S := fun w' => Blk w' g 31 #[.int .i64 r.size, .slice A L c] ∧ ReadsL w' w'.heap.size sone 1 A r.peaks ∧ Ext w w') (by kernel_rfl) ⟨ke.drew, hrd, he.drew⟩ (fun hH => ?_)
 clear ke he hrd
 refine takeQ 0 (.pointer (some ⟨g, 0, none⟩)) (some 5) rfl rfl (by kernel_rfl) (Or.inl ⟨by rfl, ?yq1⟩) hH ?rq1
 case yq1 => intro w' hS'; go_simp; try with_reducible rfl
 try simp only [zA]
 refine takeQ 1 (.int .i64 r.size) (some 6) rfl rfl (by kernel_rfl) (Or.inl ⟨by rfl, ?yq2⟩) hH ?rq2
 case yq2 => intro w' hS'; obtain ⟨s0, s1, s2⟩ := hS'; obtain ⟨r1, f1⟩ := s0.rules; go_simp; try with_reducible rfl
 try simp only [zA]
 cases p1 : inR r.size 0 512
 · have E := hU (show fin = false by rw [F.out, p1]; rfl)
   refine oneH 2 (oi := _) (some 7) (by kernel_rfl) rfl rfl rfl (fun K' hK => ?_)
   refine ⟨?_⟩
   rw [if_pos (by rfl)]
   go_simp
   refine (l04Size_any r.size _).mono ?_
   rintro e w2 ⟨rfl, rfl⟩
   rw [p1]
   refine hK.out _ _ ⟨_, rfl⟩ (hH) (fun hH2 => ?_)
   clear hK K' hH
   have hH := hH2
   clear hH2
   try simp only [zB]
   refine takeQ 3 (.bool false) (some 8) rfl rfl (by kernel_rfl) (Or.inl ⟨by rfl, ?yqa1⟩) hH ?rqa1
   case yqa1 => intro w' hS'; go_simp; try with_reducible rfl
   try simp only [zA]
   refine takeQ 4 (undef) (some 9) rfl rfl (by kernel_rfl) (Or.inr ⟨by go_simp; try (intro h; cases h), rfl⟩) hH ?rqa2
   try simp only [zB]
   refine takeQ 5 (undef) (some 10) rfl rfl (by kernel_rfl) (Or.inr ⟨by go_simp; try (intro h; cases h), rfl⟩) hH ?rqa3
   try simp only [zB]
   refine takeQ 6 (undef) (some 11) rfl rfl (by kernel_rfl) (Or.inr ⟨by go_simp; try (intro h; cases h), rfl⟩) hH ?rqa4
   try simp only [zB]
   refine takeQ 7 (undef) (some 12) rfl rfl (by kernel_rfl) (Or.inr ⟨by go_simp; try (intro h; cases h), rfl⟩) hH ?rqa5
   try simp only [zB]
   refine takeQ 8 (undef) (some 13) rfl rfl (by kernel_rfl) (Or.inr ⟨by go_simp; try (intro h; cases h), rfl⟩) hH ?rqa6
   try simp only [zB]
   refine takeQ 9 (undef) (some 14) rfl rfl (by kernel_rfl) (Or.inr ⟨by go_simp; try (intro h; cases h), rfl⟩) hH ?rqa7
   try simp only [zB]
   refine takeQ 10 (undef) (some 15) rfl rfl (by kernel_rfl) (Or.inr ⟨by go_simp; try (intro h; cases h), rfl⟩) hH ?rqa8
   try simp only [zB]
   refine takeQ 11 (undef) (some 16) rfl rfl (by kernel_rfl) (Or.inr ⟨by go_simp; try (intro h; cases h), rfl⟩) hH ?rqa9
   try simp only [zB]
   refine takeQ 12 (.bool false) (some 17) rfl rfl (by kernel_rfl) (Or.inl ⟨by rfl, ?yqa10⟩) hH ?rqa10
   case yqa10 => intro w' hS'; go_simp; try with_reducible rfl
   try simp only [zA]
   refine takeQ 13 (.bool false) (some 18) rfl rfl (by kernel_rfl) (Or.inl ⟨by rfl, ?yqa11⟩) hH ?rqa11
   case yqa11 => intro w' hS'; go_simp; try with_reducible rfl
   try simp only [zA]
   refine takeQ 14 (undef) (some 19) rfl rfl (by kernel_rfl) (Or.inr ⟨by go_simp; try (intro h; cases h), rfl⟩) hH ?rqa12
   try simp only [zB]
   refine takeQ 15 (undef) (some 20) rfl rfl (by kernel_rfl) (Or.inr ⟨by go_simp; try (intro h; cases h), rfl⟩) hH ?rqa13
   try simp only [zB]
   refine takeQ 16 (undef) (some 21) rfl rfl (by kernel_rfl) (Or.inr ⟨by go_simp; try (intro h; cases h), rfl⟩) hH ?rqa14
   try simp only [zB]
   refine takeQ 17 (undef) (some 22) rfl rfl (by kernel_rfl) (Or.inr ⟨by go_simp; try (intro h; cases h), rfl⟩) hH ?rqa15
   try simp only [zB]
   refine takeQ 18 (.bool false) (some 23) rfl rfl (by kernel_rfl) (Or.inl ⟨by rfl, ?yqa16⟩) hH ?rqa16
   case yqa16 => intro w' hS'; go_simp; try with_reducible rfl
   try simp only [zA]
   refine takeQ 19 (.bool false) (some 4) rfl rfl (by kernel_rfl) (Or.inl ⟨by rfl, ?yqa17⟩) hH ?rqa17
   case yqa17 => intro w' hS'; go_simp; try with_reducible rfl
   try simp only [zA]
   have he2 := hH.2.2
   clear hH
   refine wpAnyH_done (by kernel_rfl) ?_ _
   go_wp2_with fail
   go_ret
   exact ⟨ret_bool E.out.symm, he2⟩
 · have hs := inR_true p1
   have F2 := hU (show pkN r.size = pc r.size.toNat by rw [pkN, p1]; rfl)
   obtain ⟨M, hM⟩ : ∃ M, M = pkN r.size := ⟨_, rfl⟩
   have HM := hU hM
   clear hM
   refine oneH 2 (oi := _) (some 7) (by kernel_rfl) rfl rfl rfl (fun K' hK => ?_)
   refine ⟨?_⟩
   rw [if_pos (by rfl)]
   go_simp
   refine (l04Size_any r.size _).mono ?_
   rintro e w2 ⟨rfl, rfl⟩
   rw [p1]
   refine hK.out _ _ ⟨_, rfl⟩ (hH) (fun hH2 => ?_)
   clear hK K' hH
   have hH := hH2
   clear hH2
   try simp only [zB]
   refine takeQ 3 (.bool true) (some 8) rfl rfl (by kernel_rfl) (Or.inl ⟨by rfl, ?yqb1⟩) hH ?rqb1
   case yqb1 => intro w' hS'; go_simp; try with_reducible rfl
   try simp only [zA]
   refine takeQ 4 (.pointer (some ⟨g, 1, none⟩)) (some 9) rfl rfl (by kernel_rfl) (Or.inl ⟨by rfl, ?yqb2⟩) hH ?rqb2
   case yqb2 => intro w' hS'; go_simp; try with_reducible rfl
   try simp only [zA]
   refine takeQ 5 (.slice A L c) (some 10) rfl rfl (by kernel_rfl) (Or.inl ⟨by rfl, ?yqb3⟩) hH ?rqb3
   case yqb3 => intro w' hS'; obtain ⟨s0, s1, s2⟩ := hS'; obtain ⟨r1, f1⟩ := s0.rules; go_simp; try with_reducible rfl
   try simp only [zA]
   refine takeQ 6 (.int .i64 (L : Int)) (some 11) rfl rfl (by kernel_rfl) (Or.inl ⟨by rfl, ?yqb4⟩) hH ?rqb4
   case yqb4 => intro w' hS'; obtain ⟨s0, s1, s2⟩ := hS'; obtain ⟨r1, f1⟩ := s0.rules; go_simp; try with_reducible rfl
   try simp only [zA]
   refine takeQ 7 (.pointer (some ⟨g, 0, none⟩)) (some 12) rfl rfl (by kernel_rfl) (Or.inl ⟨by rfl, ?yqb5⟩) hH ?rqb5
   case yqb5 => intro w' hS'; go_simp; try with_reducible rfl
   try simp only [zA]
   refine takeQ 8 (.int .i64 r.size) (some 13) rfl rfl (by kernel_rfl) (Or.inl ⟨by rfl, ?yqb6⟩) hH ?rqb6
   case yqb6 => intro w' hS'; obtain ⟨s0, s1, s2⟩ := hS'; obtain ⟨r1, f1⟩ := s0.rules; go_simp; try with_reducible rfl
   try simp only [zA]
   refine oneHw 9 (oi := _) (some 14) (by kernel_rfl) rfl (by rfl) rfl (fun K' hK => ?_)
   refine ⟨?_⟩
   rw [if_pos (by rfl)]
   go_simp
   refine (PeaksOf_any r.size _).mono ?_
   rintro e w2 ⟨Ap, cp, rfl, h1⟩
   rw [← HM.out]
   refine hK.out _ _ ⟨_, rfl⟩ (⟨hH.1.ext h1, hH.2.1.ext h1, hH.2.2.next h1⟩) (fun hH2 => ?_)
   clear hK K' hH h1
   have hH := hH2
   clear hH2
   try simp only [zB]
   by_cases p2 : L = M
   · have x2 : (L : Int) = (M : Int) := by omega
     have E := hU (show fin = (hashes wd r.peaks && inR wd 1 32) by rw [F.out, p1, ← F2.out, ← HM.out, decide_eq_true p2]; rfl)
     obtain ⟨z, hz⟩ : ∃ z, z = (hashes wd r.peaks && inR wd 1 32) := ⟨_, rfl⟩
     have HZ := hU hz
     clear p2 hz
     refine takeQ 10 (.int .i64 (M : Int)) (some 15) rfl rfl (by kernel_rfl) (Or.inl ⟨by rfl, ?yqbc1⟩) hH ?rqbc1
     case yqbc1 => intro w' hS'; obtain ⟨s0, s1, s2⟩ := hS'; obtain ⟨r1, f1⟩ := s0.rules; go_simp; try with_reducible rfl
     try simp only [zA]
     refine takeQ 11 (.bool true) (some 16) rfl rfl (by kernel_rfl) (Or.inl ⟨by rfl, ?yqbc2⟩) hH ?rqbc2
     case yqbc2 => intro w' hS'; go_simp; try with_reducible rfl
     try simp only [zA]
     clear x2
     refine takeQ 12 (.bool true) (some 17) rfl rfl (by kernel_rfl) (Or.inl ⟨by rfl, ?yqbc3⟩) hH ?rqbc3
     case yqbc3 => intro w' hS'; go_simp; try with_reducible rfl
     try simp only [zA]
     refine takeQ 13 (.bool true) (some 18) rfl rfl (by kernel_rfl) (Or.inl ⟨by rfl, ?yqbc4⟩) hH ?rqbc4
     case yqbc4 => intro w' hS'; go_simp; try with_reducible rfl
     try simp only [zA]
     refine takeQ 14 (.int .i64 wd) (some 19) rfl rfl (by kernel_rfl) (Or.inl ⟨by rfl, ?yqbc5⟩) hH ?rqbc5
     case yqbc5 => intro w' hS'; obtain ⟨s0, s1, s2⟩ := hS'; obtain ⟨r1, f1⟩ := s0.rules; go_simp; try with_reducible rfl
     try simp only [zA]
     refine takeQ 15 (.pointer (some ⟨g, 1, none⟩)) (some 20) rfl rfl (by kernel_rfl) (Or.inl ⟨by rfl, ?yqbc6⟩) hH ?rqbc6
     case yqbc6 => intro w' hS'; go_simp; try with_reducible rfl
     try simp only [zA]
     refine takeQ 16 (.slice A L c) (some 21) rfl rfl (by kernel_rfl) (Or.inl ⟨by rfl, ?yqbc7⟩) hH ?rqbc7
     case yqbc7 => intro w' hS'; obtain ⟨s0, s1, s2⟩ := hS'; obtain ⟨r1, f1⟩ := s0.rules; go_simp; try with_reducible rfl
     try simp only [zA]
     refine oneHw 17 (oi := _) (some 22) (by kernel_rfl) rfl (by rfl) rfl (fun K' hK => ?_)
     refine ⟨?_⟩
     rw [if_pos (by rfl)]
     go_simp
     refine (HC.out _ hH.2.1).mono ?_
     rintro e w2 ⟨rfl, h1⟩
     rw [← HZ.out]
     refine hK.out _ _ ⟨_, rfl⟩ (⟨hH.1.ext h1, hH.2.1.ext h1, hH.2.2.next h1⟩) (fun hH2 => ?_)
     clear hK K' hH h1
     have hH := hH2
     clear hH2
     try simp only [zB]
     refine takeQ 18 (.bool z) (some 23) rfl rfl (by kernel_rfl) (Or.inl ⟨by rfl, ?yqbc8⟩) hH ?rqbc8
     case yqbc8 => intro w' hS'; go_simp; try with_reducible rfl
     try simp only [zA]
     refine takeQ 19 (.bool z) (some 4) rfl rfl (by kernel_rfl) (Or.inl ⟨by rfl, ?yqbc9⟩) hH ?rqbc9
     case yqbc9 => intro w' hS'; go_simp; try with_reducible rfl
     try simp only [zA]
     rw [← HZ.out] at E
     have he2 := hH.2.2
     clear hH
     refine wpAnyH_done (by kernel_rfl) ?_ _
     go_wp2_with fail
     go_ret
     exact ⟨ret_bool E.out.symm, he2⟩
   · have x2 : ¬ (L : Int) = (M : Int) := by omega
     have E := hU (show fin = false by rw [F.out, p1, ← F2.out, ← HM.out, decide_eq_false p2]; rfl)
     clear p2
     refine takeQ 10 (.int .i64 (M : Int)) (some 15) rfl rfl (by kernel_rfl) (Or.inl ⟨by rfl, ?yqbd1⟩) hH ?rqbd1
     case yqbd1 => intro w' hS'; obtain ⟨s0, s1, s2⟩ := hS'; obtain ⟨r1, f1⟩ := s0.rules; go_simp; try with_reducible rfl
     try simp only [zA]
     refine takeQ 11 (.bool false) (some 16) rfl rfl (by kernel_rfl) (Or.inl ⟨by rfl, ?yqbd2⟩) hH ?rqbd2
     case yqbd2 => intro w' hS'; go_simp; try with_reducible rfl
     try simp only [zA]
     refine takeQ 12 (.bool false) (some 17) rfl rfl (by kernel_rfl) (Or.inl ⟨by rfl, ?yqbd3⟩) hH ?rqbd3
     case yqbd3 => intro w' hS'; go_simp; try with_reducible rfl
     try simp only [zA]
     refine takeQ 13 (.bool false) (some 18) rfl rfl (by kernel_rfl) (Or.inl ⟨by rfl, ?yqbd4⟩) hH ?rqbd4
     case yqbd4 => intro w' hS'; go_simp; try with_reducible rfl
     try simp only [zA]
     refine takeQ 14 (undef) (some 19) rfl rfl (by kernel_rfl) (Or.inr ⟨by go_simp; try (intro h; cases h), rfl⟩) hH ?rqbd5
     try simp only [zB]
     refine takeQ 15 (undef) (some 20) rfl rfl (by kernel_rfl) (Or.inr ⟨by go_simp; try (intro h; cases h), rfl⟩) hH ?rqbd6
     try simp only [zB]
     refine takeQ 16 (undef) (some 21) rfl rfl (by kernel_rfl) (Or.inr ⟨by go_simp; try (intro h; cases h), rfl⟩) hH ?rqbd7
     try simp only [zB]
     refine takeQ 17 (undef) (some 22) rfl rfl (by kernel_rfl) (Or.inr ⟨by go_simp; try (intro h; cases h), rfl⟩) hH ?rqbd8
     try simp only [zB]
     refine takeQ 18 (.bool false) (some 23) rfl rfl (by kernel_rfl) (Or.inl ⟨by rfl, ?yqbd9⟩) hH ?rqbd9
     case yqbd9 => intro w' hS'; go_simp; try with_reducible rfl
     try simp only [zA]
     refine takeQ 19 (.bool false) (some 4) rfl rfl (by kernel_rfl) (Or.inl ⟨by rfl, ?yqbd10⟩) hH ?rqbd10
     case yqbd10 => intro w' hS'; go_simp; try with_reducible rfl
     try simp only [zA]
     have he2 := hH.2.2
     clear hH
     refine wpAnyH_done (by kernel_rfl) ?_ _
     go_wp2_with fail
     go_ret
     exact ⟨ret_bool E.out.symm, he2⟩
theorem RangeRoot_any (wd : Int) (r : RangeD) (A : Option Addr) (c : Nat) (w : World) (hr : ReadsL w w.heap.size sone 1 A r.peaks) (hl : r.peaks.length ≤ 1048576) :
 Calls Tryz.prog 243 #[.int .i64 wd, .agg #[.int .i64 r.size, .slice A r.peaks.length c]] w fun e w' => ∃ m, e = .returned (.tuple #[.string (if rangeOkB wd r then rootR wd r else ⟨#[]⟩), .int .i64 m, .bool (rangeOkB wd r)]) ∧ Ext w w' := by
 have K0 := hU (Blk.new w 31 #[.int .i64 r.size, .slice A r.peaks.length c])
 have He := hU (Ext.new (Below.refl w.heap.size w) (.cells #[.int .i64 r.size, .slice A r.peaks.length c] 31))
 have RO := hU (fun (W : World) (hW : ReadsL W W.heap.size sone 1 A r.peaks) => RangeOk_any wd r A c W hW hl)
 have HR := hU (hr.ext He.out)
 cases b1 : rangeOkB wd r
 · go_enter Tryz.func243, Tryz.ntmps243
   go_wp2_with fail
   refine (RO.out _ HR.out).mono ?_
   rintro e w1 ⟨rfl, h1⟩
   rw [b1]
   have he := He.out.next h1
   clear h1
   go_wp2_with fail
   go_ret3
   exact ⟨⟨0, rfl⟩, he⟩
 obtain ⟨Fn, hFn⟩ : ∃ Fn, Fn = rootR wd r := ⟨_, rfl⟩
 have FF := hU hFn
 simp only [if_true]
 rw [← hFn]
 have hb := b1
 simp only [rangeOkB, Bool.and_eq_true, decide_eq_true_eq, hashes, List.all_eq_true, beq_iff_eq] at hb
 obtain ⟨⟨hsz, hlen⟩, hhs, hwd⟩ := hb
 have hs2 := inR_true hsz
 have hwd2 := inR_true hwd
 have Hs := hU (show ∀ x ∈ r.peaks, WdT wd x from fun x hx => by have := hhs x hx; unfold WdT; omega)
 have B1 := hU b1
 clear b1 hFn hhs hsz
 by_cases h0 : r.size = 0
 · have E := hU (show Fn = emptyR wd by
    rw [FF.out]
    have : r.peaks = [] := List.eq_nil_of_length_eq_zero (by rw [hlen, h0]; rfl)
    unfold rootR
    rw [this]; rfl)
   have x0 : (r.size == 0) = true := by rw [h0]; rfl
   have x1 : decide (r.size = 0) = true := decide_eq_true h0
   clear hlen h0
   go_enter Tryz.func243, Tryz.ntmps243
   go_wp2_with fail
   obtain ⟨g, hg⟩ : ∃ g, g = w.heap.size := ⟨_, rfl⟩
   rw [← hg] at K0
   rw [← hg]
   clear hg
   have ke := K0.out
   refine (RO.out _ HR.out).mono ?_
   rintro e w1 ⟨rfl, h1⟩
   rw [B1.out]
   have he := He.out.next h1
   replace ke := ke.ext h1
   clear h1 K0
   obtain ⟨hcr, hfr⟩ := ke.rules
   go_wp2_with fail
   refine (specEmptyRoot_any wd _).mono ?_
   rintro e w2 ⟨rfl, h1⟩
   replace he := he.next h1
   clear h1 hcr hfr ke
   go_wp2_with fail
   go_ret3
   exact ⟨0, by rw [E.out]; rfl, he⟩
 obtain ⟨k, hk⟩ : ∃ k, r.peaks.length = k + 1 := ⟨r.peaks.length - 1, by have := pc_pos (n := r.size.toNat) (by omega); omega⟩
 have hk5 : k ≤ 512 := by have := pc_le r.size.toNat; omega
 obtain ⟨b, off, rfl, hb, hc⟩ := hr.2 (by omega)
 obtain ⟨t, ht⟩ : ∃ t, r.peaks[k]? = some t := ⟨r.peaks[k]'(by omega), List.getElem?_eq_getElem (by omega)⟩
 have hcell : ∀ (j : Nat) (x : ByteArray), r.peaks[j]? = some x → w.cell? ⟨b, off + j, none⟩ = some (.string x) := fun j x hx => by
  have := hc (j * 1 + 0) (.string x) (by rw [flat_at sone 1 sone_length r.peaks j 0 x hx (by omega)]; rfl)
  rwa [Nat.mul_one, Nat.add_zero] at this
 have C0 := hU (hcell k t ht)
 have HC := hU hcell
 have hst : WdT wd t := Hs.out t (List.mem_of_getElem? ht)
 have ST := hU (show Fn = (r.peaks.take k).reverse.foldl (fun r p => ndB wd p r) t by rw [FF.out]; exact rootS_of _ _ ht hk)
 have HST := hU hst
 obtain ⟨L, hL⟩ : ∃ L, L = r.peaks.length := ⟨_, rfl⟩
 rw [← hL] at K0 He hk hl RO HR
 rw [← hL]
 have e1 : (L : Int) - 1 = (k : Int) := by omega
 have e2 : IntKind.i64.wrap (k : Int) = (k : Int) := IntWalk.i64_in _ (by omega)
 have e3 : (L : Int) - 2 = (k : Int) - 1 := by omega
 have hkL : k < L := by omega
 have HL := hU hL
 clear hc hcell ht hst hk hL hlen
 go_enter Tryz.func243, Tryz.ntmps243
 go_wp2_with fail
 obtain ⟨g, hg⟩ : ∃ g, g = w.heap.size := ⟨_, rfl⟩
 rw [← hg] at K0
 rw [← hg]
 clear hg
 have ke := K0.out
 refine (RO.out _ HR.out).mono ?_
 rintro e w1 ⟨rfl, h1⟩
 rw [B1.out]
 have he := He.out.next h1
 replace ke := ke.ext h1
 clear h1 K0 He HR RO
 obtain ⟨hcr, hfr⟩ := ke.rules
 have c1 : w1.cell? ⟨b, off + k, none⟩ = some (.string t) := (he.cell (p := ⟨b, off + k, none⟩) hb).trans C0.out
 have e0 : (r.size == 0) = false := beq_false_of_ne h0
 go_wp2_with fail
 clear c1
 go_loopw [9, 10] (fun rt i wr => ∃ (j : Nat) (q : ByteArray), j ≤ k ∧ i = .int .i64 ((j : Int) - 1) ∧ rt = .string q ∧ (r.peaks.take j).reverse.foldl (fun r p => ndB wd p r) q = Fn ∧ WdT wd q ∧ Blk wr g 31 #[.int .i64 r.size, .slice (some ⟨b, off, none⟩) L c] ∧ Ext w wr) (fun _ i _ => (intOf i + 1).toNat)
 case atStart => exact ⟨k, t, Nat.le_refl _, by go_num, rfl, ST.out.symm, HST.out, ke, he⟩
 case round =>
  clear ke he hcr hfr
  obtain ⟨j, q, hj, rfl, rfl, hF, hw, k0, he⟩ := hrel
  have HF := hU hF; have HW := hU hw
  obtain ⟨hcr, hfr⟩ := k0.rules
  have K0 := hU k0
  clear hF hw k0
  rcases Nat.eq_zero_or_pos j with j0 | j0
  · subst j0
    have E := hU (show q = Fn from HF.out)
    go_wp2_with fail
    go_quiet (fail)
    go_wp2_with fail
    go_ret3
    exact ⟨(k : Int), by rw [E.out]; rfl, he.drewN _⟩
  obtain ⟨i, hi⟩ : ∃ i, j = i + 1 := ⟨j - 1, by omega⟩
  subst hi
  obtain ⟨x, hx⟩ : ∃ x, r.peaks[i]? = some x := ⟨r.peaks[i]'(by have := HL.out; omega), List.getElem?_eq_getElem (by have := HL.out; omega)⟩
  have c2 : wr.cell? ⟨b, off + i, none⟩ = some (.string x) := (he.cell (p := ⟨b, off + i, none⟩) hb).trans (HC.out i x hx)
  have hxs : WdT wd x := Hs.out x (List.mem_of_getElem? hx)
  have FN := hU (show (r.peaks.take i).reverse.foldl (fun r p => ndB wd p r) (ndB wd x q) = Fn by rw [← fold_next _ hx]; exact HF.out)
  have HJ := hU (ndB_wd hwd x q hxs HW.out)
  have NH : Hid (∀ W : World, Calls Tryz.prog 279 #[.int .i64 wd, .string x, .string q] W fun e w' => e = .returned (.tuple #[.string (nodeT wd (x ++ q)), .bool true]) ∧ Ext W w') := hU (fun W => specNodeHash_good wd x q W hwd hxs HW.out)
  have e3 : ((i + 1 : Nat) : Int) - 1 = (i : Int) := by omega
  have e4 : IntKind.i64.wrap (i : Int) = (i : Int) := IntWalk.i64_in _ (by omega)
  have hiL : i < L := by omega
  have d0 : decide ((0 : Int) ≤ (i : Int)) = true := decide_eq_true (by omega)
  rw [e3]
  clear hx hxs HF HW
  go_wp2_with fail
  refine (NH.out _).mono ?_
  rintro e w2 ⟨rfl, h1⟩
  replace K0 := hU (K0.out.ext h1); replace he := he.next h1
  clear h1 hcr hfr c2
  go_wp2_with fail
  go_roundw
  case rel => exact ⟨i, _, by omega, by go_num, rfl, FN.out, HJ.out, K0.out, he⟩
  case measure => simp [intOf]
end Go.Proofs.YtgeengkdgdjcjaaGreat

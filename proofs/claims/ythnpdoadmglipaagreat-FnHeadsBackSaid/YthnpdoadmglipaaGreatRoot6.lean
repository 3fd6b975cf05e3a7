/-
  TakeT; Root5; Bits; PathOps; Root6: No condition.
-/
import Derived.Test.YthnpdoadmglipaaGreatSealB
import Derived.Test.YthnpdoadmglipaaGreatConvWrite
import Derived.Test.YthnpdoadmglipaaGreatSealT
import Derived.Test.YthnpdoadmglipaaGreatMem
import Derived.Laws.MathBits
import Derived.Test.YthnpdoadmglipaaGreatAppSrc
import Derived.Test.YthnpdoadmglipaaGreatBunch
namespace Go.Proofs.YthnpdoadmglipaaGreat
set_option linter.unusedSimpArgs false
open Go.RowKit
set_option linter.unusedVariables false
def taCode (b : BrokerD) (r : ReceiptD) : Nat := if brokerB b then tkCode b r else 1
def taB (b : BrokerD) (r : ReceiptD) : BrokerD := if taCode b r = 0 then tkB b r else noB
def taW (b : BrokerD) (r : ReceiptD) : List WriteD := if taCode b r = 0 then [writeW b 2 (receiptText r)] else []
theorem ta_bad {b : BrokerD} {r : ReceiptD} {k : Nat} (h : taCode b r = k) (h0 : k ≠ 0) : taB b r = noB ∧ taW b r = [] := by
 have : ¬ taCode b r = 0 := by omega
 exact ⟨by rw [taB, if_neg this], by rw [taW, if_neg this]⟩
theorem ta_good {b : BrokerD} {r : ReceiptD} (h : taCode b r = 0) : taB b r = tkB b r ∧ taW b r = [writeW b 2 (receiptText r)] := ⟨by rw [taB, if_pos h], by rw [taW, if_pos h]⟩
theorem ta_end {b : BrokerD} {r : ReceiptD} {k : Nat} {w w' : World} {e : Ending} {vw : Value} (h : taCode b r = k) (h0 : k ≠ 0) (he : e = .returned (.tuple #[.agg #[.int .i64 0, .slice none 0 0, .slice none 0 0, .slice none 0 0, .int .i64 0, .slice none 0 0, .int .i64 0, .slice none 0 0, .int .i64 0, .int .i64 0, .string ⟨#[]⟩, .int .i64 0, .string ⟨#[]⟩], vw, .int .i64 (k : Int)])) (ho : w'.ownsRow w.heap.size 79 3 vw 0 []) (hx : Ext w w') : BrAns (taB b r) (taW b r) (taCode b r) w e w' := by
 rw [(ta_bad h h0).1, (ta_bad h h0).2, h]; exact BrAns.bad he ho hx
theorem specNodeHash_good (n : Int) (a b : ByteArray) (w : World) (hn : inR n 1 32 = true) (ha : a.size = n.toNat) (hb : b.size = n.toNat) : Calls Tryz.prog 161 #[.int .i64 n, .string a, .string b] w fun e w' => e = .returned (.tuple #[.string (nodeT n (a ++ b)), .bool true]) ∧ Ext w w' := by
 have hn2 := inR_true hn
 have h1 : (a.size : Int) = n := by omega
 have h2 : (b.size : Int) = n := by omega
 have h3 : (a ++ b).size ≤ 4000 := by rw [ByteArray.size_append]; omega
 have E : digestOk n 1 (a ++ b) = true := by rw [digestOk, hn]; simp [inR]; rw [ByteArray.size_append] at h3; omega
 have E := hU E
 have ha2 : a.size ≤ 1000 := by omega
 have hb2 : b.size ≤ 1000 := by omega
 have hs : (a ++ b).size ≤ maxLen := by unfold maxLen; omega
 clear ha hb h3 hn2
 go_enter Tryz.func161, Tryz.ntmps161
 go_wp2_with fail
 refine (l02Width_any n _).mono ?_
 rintro e w1 ⟨rfl, rfl⟩
 go_wp2_with fail
 refine (specDigest_any n 1 (a ++ b) _ hs).mono ?_
 rintro e w1 ⟨rfl, he⟩
 rw [E.out]
 go_wp2_with fail
 go_ret2
 exact ⟨rfl, he⟩

set_option maxHeartbeats 1000000
theorem hashes_no {w : Int} {l : List ByteArray} {k : Nat} (hk : k < l.length) (h : ((l[k].size : Int) == w) = false) : hashes w l = false := by
 rw [hashes, List.all_eq_false]
 exact ⟨l[k], List.getElem_mem hk, by simpa using h⟩
theorem hashes_up {w : Int} {l : List ByteArray} (h : ∀ k (hk : k < l.length), ((l[k].size : Int) == w) = true) : hashes w l = true := by
 rw [hashes, List.all_eq_true]
 intro x hx
 obtain ⟨k, hk, rfl⟩ := List.getElem_of_mem hx
 exact h k hk
theorem l04Hashes_any (n : Int) (A : Option Addr) (c : Nat) (l : List ByteArray) (w : World) (hr : ReadsL w w.heap.size sone 1 A l) (hl : l.length ≤ 1048576) :
 Calls Tryz.prog 133 #[.int .i64 n, .slice A l.length c] w fun e w' => e = .returned (.bool (hashes n l && inR n 1 32)) ∧ Ext w w' := by
 go_enter Tryz.func133, Tryz.ntmps133
 go_wp2_with fail
 go_loopw [5] (fun i wr => ∃ (k : Nat), k ≤ l.length ∧ i = .int .i64 k ∧ (∀ j (hj : j < l.length), j < k → ((l[j].size : Int) == n) = true) ∧ Ext w wr) (fun i _ => l.length - (intOf i).toNat)
 case atStart => exact ⟨0, Nat.zero_le _, rfl, fun j _ h => absurd h (Nat.not_lt_zero _), Below.refl _ _⟩
 case round =>
  obtain ⟨k, hk, rfl, hall, he⟩ := hrel
  have Hall := hU hall; clear hall
  by_cases hlt : k < l.length
  · obtain ⟨b, off, rfl, hb, hc⟩ := Reads.at_ (hr.ext he) (k := k) hlt
    have hdl : l[k]? = some l[k] := List.getElem?_eq_getElem hlt
    have c0 := hc 0 _ (flat_at _ 1 sone_length l k 0 _ hdl (by omega))
    rw [Nat.add_zero, Nat.mul_one] at c0
    clear hc hdl
    have hd : decide ((k : Int) < (l.length : Int)) = true := by rw [decide_eq_true_iff]; omega
    cases b1 : ((l[k].size : Int) == n)
    · have E := hU (hashes_no hlt b1)
      have b2 := ne_of_beq b1
      generalize l[k] = x at *
      go_wp2_with fail
      go_ret
      exact ⟨ret_bool (by rw [E.out]; rfl), he⟩
    · have Hn : Hid (∀ j (hj : j < l.length), j < k + 1 → ((l[j].size : Int) == n) = true) := hU (fun j hj h => by
       rcases Nat.lt_or_ge j k with h1 | h1
       · exact Hall.out j hj h1
       · obtain rfl : j = k := by omega
         exact b1)
      have b2 := ne_of_beq b1
      clear Hall
      generalize l[k] = x at *
      go_wp2_with fail
      go_roundw
      case rel => exact ⟨k + 1, by omega, by go_num, Hn.out, he⟩
      case measure => simp [intOf]; omega
  · have E := hU (hashes_up (fun j hj => Hall.out j hj (by omega)))
    have hd : decide ((k : Int) < (l.length : Int)) = false := by rw [decide_eq_false_iff_not]; omega
    go_wp2_with (go_at_call 128; refine (l02Width_any _ _).mono ?_; rintro e w' ⟨rfl, rfl⟩)
    go_ret
    exact ⟨ret_bool (by rw [E.out]; rfl), he⟩

end Go.Proofs.YthnpdoadmglipaaGreat

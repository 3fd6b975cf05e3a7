/-
  Names: the program's side, a walk. No condition.
-/
import Derived.Test.YtkcjhfidgnbdiaaNamesOk
import Derived.Test.YtkcjhfidgnbdiaaHashTop
namespace Go.Proofs.Ytkcjhfidgnbdiaa
set_option linter.unusedSimpArgs false
open Go.RowKit
set_option linter.unusedVariables false

set_option maxHeartbeats 2000000 in
theorem implNamesOk_any (m : Int) (A : Option Addr) (c : Nat) (l : List ByteArray) (w : World) (hr : SlF AnyB sone 1 w A l c) (hok : ∀ s ∈ l, s.size ≤ maxLen) :
    Calls Try.prog 43 #[.int .i64 m, .slice A l.length c] w fun e w' => e = .returned (.bool (inR m 1 32 && namesB l)) ∧ w = w' := by
  have hm := hr.len
  have hle := hr.le
  unfold maxLen at hm
  obtain ⟨fin, hfin⟩ : ∃ fin, fin = (inR m 1 32 && namesB l) := ⟨_, rfl⟩
  rw [← hfin]
  cases q1 : inR m 1 32
  · have E := Lib.hid (show fin = false by rw [hfin, q1]; rfl)
    clear hfin
    go_enter Try.func43, Try.ntmps43
    go_wp2_with (go_at_call 36; refine (isWidth_any _ _).mono ?_; rintro e w' ⟨rfl, rfl⟩; rw [q1])
    go_ret
    exact ⟨ret_bool E.out.symm, rfl⟩
  cases q2 : inR (l.length : Int) 1 4
  · have E := Lib.hid (show fin = false by rw [hfin, q1, namesB, q2]; rfl)
    clear hfin
    go_enter Try.func43, Try.ntmps43
    go_wp2_with (first | (go_at_call 36; refine (isWidth_any _ _).mono ?_; rintro e w' ⟨rfl, rfl⟩; rw [q1]) | (go_at_call 72; refine (inRange_any _ _ _ _).mono ?_; rintro e w' ⟨rfl, rfl⟩; rw [q2]))
    go_ret
    exact ⟨ret_bool E.out.symm, rfl⟩
  have F := Lib.hid (show fin = namesTo l l.length by rw [hfin, q1, namesB, q2]; rfl)
  clear hfin
  go_enter Try.func43, Try.ntmps43
  go_wp2_with (first | (go_at_call 36; refine (isWidth_any _ _).mono ?_; rintro e w' ⟨rfl, rfl⟩; rw [q1]) | (go_at_call 72; refine (inRange_any _ _ _ _).mono ?_; rintro e w' ⟨rfl, rfl⟩; rw [q2]))
  go_loopw [18] (fun i wr => ∃ k : Nat, k ≤ l.length ∧ i = .int .i64 k ∧ namesTo l k = true ∧ wr = w) (fun i _ => l.length - (intOf i).toNat)
  case atStart => exact ⟨0, Nat.zero_le _, rfl, rfl, rfl⟩
  case round =>
    obtain ⟨k, hk, rfl, hi, rfl⟩ := hrel
    have Hi := Lib.hid hi
    clear hi
    by_cases hlt : k < l.length
    case neg =>
      have E := Lib.hid (show fin = true by rw [F.out, show l.length = k by omega]; exact Hi.out)
      go_wp2_with fail
      go_ret
      exact ⟨ret_bool E.out.symm, rfl⟩
    obtain ⟨b, off, rfl, hb, hc⟩ := Reads.at_ hr.reads (k := k) (by omega)
    obtain ⟨d, hd⟩ : ∃ d, d = l[k]'(by omega) := ⟨_, rfl⟩
    have hdl : l[k]? = some d := by rw [hd]; exact List.getElem?_eq_getElem (by omega)
    have hds := hok d (List.mem_of_getElem? hdl)
    have c0 := hc 0 _ (flat_at _ 1 sone_length l k 0 d hdl (by omega))
    rw [Nat.add_zero, Nat.mul_one] at c0
    have Hd := Lib.hid hd
    have HC := Lib.hid (contains_any _ k c l c d wr hr (by omega) (by omega))
    clear hc hdl hd hok hr
    cases p1 : nameOk d
    · have E := Lib.hid (show fin = false by rw [F.out]; exact namesTo_bad hlt (Or.inl (by rw [← Hd.out]; exact p1)))
      go_wp2_with fail
      refine (NameOk_any _ _ hds).mono ?_
      rintro e w1 ⟨rfl, rfl⟩
      rw [p1]
      go_wp2_with fail
      go_ret
      exact ⟨ret_bool E.out.symm, rfl⟩
    cases p2 : freshTo l d k
    · have E := Lib.hid (show fin = false by rw [F.out]; exact namesTo_bad hlt (Or.inr (by rw [← Hd.out]; exact p2)))
      go_wp2_with fail
      refine (NameOk_any _ _ hds).mono ?_
      rintro e w1 ⟨rfl, rfl⟩
      rw [p1]
      go_wp2_with fail
      refine HC.out.mono ?_
      rintro e w2 ⟨rfl, rfl⟩
      rw [p2]
      go_wp2_with fail
      go_ret
      exact ⟨ret_bool E.out.symm, rfl⟩
    · have E := Lib.hid (show namesTo l (k + 1) = true from namesTo_good hlt Hi.out (by rw [← Hd.out]; exact p1) (by rw [← Hd.out]; exact p2))
      go_wp2_with fail
      refine (NameOk_any _ _ hds).mono ?_
      rintro e w1 ⟨rfl, rfl⟩
      rw [p1]
      go_wp2_with fail
      refine HC.out.mono ?_
      rintro e w2 ⟨rfl, rfl⟩
      rw [p2]
      go_wp2_with fail
      go_roundw
      case rel => exact ⟨k + 1, by omega, by go_num, E.out, trivial⟩
      case measure => simp [intOf]; omega
set_option maxHeartbeats 2000000 in
theorem specNamesOk_any (A : Option Addr) (c : Nat) (l : List ByteArray) (w : World) (hr : SlF AnyB sone 1 w A l c) (hok : ∀ s ∈ l, s.size ≤ maxLen) :
    Calls Try.prog 40 #[.slice A l.length c] w fun e w' => e = .returned (.bool (namesB l)) ∧ Ext w w' := by
  have hm := hr.len
  have hle := hr.le
  unfold maxLen at hm
  obtain ⟨fin, hfin⟩ : ∃ fin, fin = namesB l := ⟨_, rfl⟩
  rw [← hfin]
  cases q2 : inR (l.length : Int) 1 4
  · have E := Lib.hid (show fin = false by rw [hfin, namesB, q2]; rfl)
    clear hfin
    go_enter Try.func40, Try.ntmps40
    go_wp2_with (go_at_call 32; refine (l01In_any _ _ _ _).mono ?_; rintro e w' ⟨rfl, rfl⟩; rw [q2])
    go_ret
    exact ⟨ret_bool E.out.symm, Below.refl _ _⟩
  have F := Lib.hid (show fin = namesTo l l.length by rw [hfin, namesB, q2]; rfl)
  clear hfin
  have h4 : l.length ≤ 4 := by have := inR_true q2; omega
  go_enter Try.func40, Try.ntmps40
  go_wp2_with (go_at_call 32; refine (l01In_any _ _ _ _).mono ?_; rintro e w' ⟨rfl, rfl⟩; rw [q2])
  go_loopw [3] (fun i wr => ∃ k : Nat, k ≤ l.length ∧ i = .int .i64 k ∧ namesTo l k = true ∧ Ext w wr) (fun i _ => l.length - (intOf i).toNat)
  case atStart => exact ⟨0, Nat.zero_le _, rfl, rfl, Below.refl _ _⟩
  case round =>
    obtain ⟨k, hk, rfl, hi, he⟩ := hrel
    have Hi := Lib.hid hi
    clear hi
    by_cases hlt : k < l.length
    case neg =>
      have E := Lib.hid (show fin = true by rw [F.out, show l.length = k by omega]; exact Hi.out)
      go_wp2_with fail
      go_ret
      exact ⟨ret_bool E.out.symm, he⟩
    have hR := hr.ext he
    obtain ⟨b, off, rfl, hb, hc⟩ := Reads.at_ hR.reads (k := k) (by omega)
    obtain ⟨d, hd⟩ : ∃ d, d = l[k]'(by omega) := ⟨_, rfl⟩
    have hdl : l[k]? = some d := by rw [hd]; exact List.getElem?_eq_getElem (by omega)
    have hds := hok d (List.mem_of_getElem? hdl)
    have c0 := hc 0 _ (flat_at _ 1 sone_length l k 0 d hdl (by omega))
    rw [Nat.add_zero, Nat.mul_one] at c0
    have Hd := Lib.hid hd
    clear hdl hd
    cases p1 : nameOk d
    · have E := Lib.hid (show fin = false by rw [F.out]; exact namesTo_bad hlt (Or.inl (by rw [← Hd.out]; exact p1)))
      clear hc
      go_wp2_with fail
      refine (specNameOk_any _ _ hds).mono ?_
      rintro e w1 ⟨rfl, rfl⟩
      rw [p1]
      go_wp2_with fail
      go_ret
      exact ⟨ret_bool E.out.symm, he⟩
    have HC := Lib.hid hc
    clear hc
    go_wp2_with fail
    refine (specNameOk_any _ _ hds).mono ?_
    rintro e w1 ⟨rfl, rfl⟩
    rw [p1]
    go_wp2_with fail
    have he2 := he
    go_loopw [4] (fun i wq => ∃ j : Nat, j ≤ k ∧ i = .int .i64 j ∧ freshTo l d j = true ∧ Ext wr wq) (fun i _ => k - (intOf i).toNat)
    case atStart => exact ⟨0, Nat.zero_le _, rfl, rfl, Below.refl _ _⟩
    case round =>
      obtain ⟨j, hj, rfl, hi2, hq⟩ := hrel
      have Hj := Lib.hid hi2
      clear hi2
      have c1 := (hq.cell (p := ⟨b, off + k, none⟩) hb).trans c0
      by_cases hjk : j < k
      case neg =>
        obtain rfl : j = k := by omega
        have E := Lib.hid (show namesTo l (j + 1) = true from namesTo_good hlt Hi.out (by rw [← Hd.out]; exact p1) (by rw [← Hd.out]; exact Hj.out))
        have E2 := Lib.hid (Ext.next he hq)
        go_wp2_with fail
        refine ⟨⟨j + 1, by omega, by go_num, E.out, E2.out⟩, ?_⟩
        simp [intOf]; omega
      obtain ⟨x, hx⟩ : ∃ x, x = l[j]'(by omega) := ⟨_, rfl⟩
      have hxl : l[j]? = some x := by rw [hx]; exact List.getElem?_eq_getElem (by omega)
      obtain ⟨b2, off2, e2, _, hc2⟩ := Reads.at_ hR.reads (k := j) (by omega)
      cases e2
      have c2 := (hq.cell (p := ⟨b, off + j * 1 + 0, none⟩) hb).trans (hc2 0 _ (flat_at _ 1 sone_length l j 0 x hxl (by omega)))
      rw [Nat.add_zero, Nat.mul_one] at c2
      clear hc2
      have Hs := Lib.hid (show freshTo l d (j + 1) = (freshTo l d j && !(x.toList == d.toList)) by rw [freshTo]; simp [hxl])
      have E2 := Lib.hid (Ext.next he hq)
      clear hxl hx
      cases p2 : (x.toList == d.toList)
      · have E := Lib.hid (show freshTo l d (j + 1) = true by rw [Hs.out, Hj.out, p2]; rfl)
        go_wp2_with fail
        go_region
        go_wp2_with fail
        refine ⟨⟨j + 1, by omega, by go_num, E.out, Below.drew hq⟩, ?_⟩
        simp [intOf]; omega
      · have E := Lib.hid (show fin = false by rw [F.out]; exact namesTo_bad hlt (Or.inr (by rw [← Hd.out]; exact freshTo_less (k := j + 1) (by rw [Hs.out, Hj.out, p2]; rfl) k hjk)))
        go_wp2_with fail
        go_region
        go_wp2_with fail
        go_ret
        exact ⟨ret_bool E.out.symm, Below.drew E2.out⟩
end Go.Proofs.Ytkcjhfidgnbdiaa

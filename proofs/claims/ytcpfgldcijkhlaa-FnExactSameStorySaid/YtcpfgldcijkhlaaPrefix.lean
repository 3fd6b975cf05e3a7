/-
  PrefixOf: walks. No condition.
-/
import Derived.Test.YtcpfgldcijkhlaaEqs
import Derived.Test.YtcpfgldcijkhlaaName
import Derived.Test.YtcpfgldcijkhlaaConvEntry
namespace Go.Proofs.Ytcpfgldcijkhlaa
open Go.RowKit
set_option linter.unusedVariables false

/-- Is one of two lists the beginning of the other? -/
def pfx : List EntryD → List EntryD → Bool
  | [], _ => true
  | _ :: _, [] => true
  | x :: a, y :: b => x.eqb y && pfx a b
def prefixB (a b : List EntryD) : Bool := decide (a.length ≤ 200) && decide (b.length ≤ 200) && pfx a b
/-- The state of a loop over both. -/
def PfxInv (a b : List EntryD) (fin : Bool) (k : Nat) : Prop := pfx (a.drop k) (b.drop k) = fin
theorem PfxInv.done {a b : List EntryD} {fin : Bool} {k : Nat} (h : PfxInv a b fin k) (hk : a.length ≤ k ∨ b.length ≤ k) : fin = true := by
  unfold PfxInv at h
  rcases hk with hk | hk
  · rw [List.drop_eq_nil_of_le hk] at h; simpa [pfx] using h.symm
  · rw [List.drop_eq_nil_of_le hk] at h
    cases hq : a.drop k <;> rw [hq] at h <;> simpa [pfx] using h.symm
theorem PfxInv.step {a b : List EntryD} {fin : Bool} {k : Nat} (h : PfxInv a b fin k) (ha : k < a.length) (hb : k < b.length) :
    (a[k].eqb b[k] = false → fin = false) ∧ (a[k].eqb b[k] = true → PfxInv a b fin (k + 1)) := by
  unfold PfxInv at h
  rw [List.drop_eq_getElem_cons ha, List.drop_eq_getElem_cons hb] at h
  simp only [pfx] at h
  refine ⟨fun e => ?_, fun e => ?_⟩
  · rw [e] at h; simpa using h.symm
  · rw [e] at h; simpa [PfxInv] using h

set_option maxHeartbeats 1000000 in
set_option maxRecDepth 100000 in
theorem specPrefixOf_any (A A' : Option Addr) (c c' : Nat) (a b : List EntryD) (w : World) (hr : ReadsL w w.heap.size EntryD.cells 5 A a) (hr' : ReadsL w w.heap.size EntryD.cells 5 A' b) (hla : a.length ≤ 1048576) (hlb : b.length ≤ 1048576) :
    Calls Try.prog 139 #[.slice A a.length c, .slice A' b.length c'] w fun e w' => e = .returned (.bool (prefixB a b)) ∧ Ext w w' := by
  by_cases h1 : 200 < a.length
  · have Hp := Lib.hid (show prefixB a b = false by simp [prefixB]; omega)
    go_enter Try.func139, Try.ntmps139
    go_wp2
    go_ret
    exact ⟨ret_bool Hp.out.symm, by go_grown⟩
  by_cases h2 : 200 < b.length
  · have Hp := Lib.hid (show prefixB a b = false by simp [prefixB]; omega)
    go_enter Try.func139, Try.ntmps139
    go_wp2
    go_ret
    exact ⟨ret_bool Hp.out.symm, by go_grown⟩
  obtain ⟨fin, hfin⟩ : ∃ fin, fin = prefixB a b := ⟨_, rfl⟩
  have Hi : PfxInv a b fin 0 := by rw [hfin]; simp [prefixB, PfxInv, show a.length ≤ 200 by omega, show b.length ≤ 200 by omega]
  rw [← hfin]; clear hfin
  go_enter Try.func139, Try.ntmps139
  go_wp2
  go_loopw [5] (fun i wr => ∃ (k : Nat), k ≤ a.length ∧ k ≤ b.length ∧ i = .int .i64 k ∧ PfxInv a b fin k ∧ Ext w wr) (fun i _ => a.length - (intOf i).toNat)
  case atStart => exact ⟨0, Nat.zero_le _, Nat.zero_le _, rfl, Hi, Below.refl _ _⟩
  case round =>
    obtain ⟨k, hk, hk', rfl, hi, he⟩ := hrel
    by_cases hlt : k < a.length
    · by_cases hlt' : k < b.length
      · obtain ⟨s1, s2⟩ := hi.step hlt hlt'
        obtain ⟨g, off, rfl, hb, hc⟩ := (hr.below he).at_ (k := k) hlt
        obtain ⟨g', off', rfl, hb', hc'⟩ := (hr'.below he).at_ (k := k) hlt'
        obtain ⟨d, hd⟩ : ∃ d, d = a[k] := ⟨_, rfl⟩
        obtain ⟨d', hd'⟩ : ∃ d', d' = b[k] := ⟨_, rfl⟩
        have hdl : a[k]? = some d := by rw [hd]; exact List.getElem?_eq_getElem hlt
        have hdl' : b[k]? = some d' := by rw [hd']; exact List.getElem?_eq_getElem hlt'
        have c0 := hc 0 _ (flat_at _ 5 EntryD.cells_length a k 0 d hdl (by omega))
        have c1 := hc 1 _ (flat_at _ 5 EntryD.cells_length a k 1 d hdl (by omega))
        have c2 := hc 2 _ (flat_at _ 5 EntryD.cells_length a k 2 d hdl (by omega))
        have c3 := hc 3 _ (flat_at _ 5 EntryD.cells_length a k 3 d hdl (by omega))
        have c4 := hc 4 _ (flat_at _ 5 EntryD.cells_length a k 4 d hdl (by omega))
        have b0 := hc' 0 _ (flat_at _ 5 EntryD.cells_length b k 0 d' hdl' (by omega))
        have b1 := hc' 1 _ (flat_at _ 5 EntryD.cells_length b k 1 d' hdl' (by omega))
        have b2 := hc' 2 _ (flat_at _ 5 EntryD.cells_length b k 2 d' hdl' (by omega))
        have b3 := hc' 3 _ (flat_at _ 5 EntryD.cells_length b k 3 d' hdl' (by omega))
        have b4 := hc' 4 _ (flat_at _ 5 EntryD.cells_length b k 4 d' hdl' (by omega))
        rw [Nat.add_zero] at c0 b0
        rw [← hd, ← hd'] at s1 s2
        clear hc hc' hd hdl hd' hdl'
        have hne := EntryD.run_neq d d'
        have S1 := Lib.hid s1; have S2 := Lib.hid s2; clear s1 s2
        have Hii := Lib.hid hi; clear hi Hi
        cases hq : d.eqb d'
        · have E1 := Lib.hid (S1.out hq)
          go_wp2_with fail
          go_quiet (fail)
          go_wp2_with fail
          go_ret
          exact ⟨ret_bool E1.out.symm, he.drewN _⟩
        · have E1 := Lib.hid (S2.out hq)
          go_wp2_with fail
          go_quiet (fail)
          go_wp2_with fail
          go_roundw
          case rel => exact ⟨k + 1, by omega, by omega, by go_num, E1.out, he.drewN _⟩
          case measure => simp [intOf]; omega
      · have E1 := Lib.hid (hi.done (.inr (by omega)))
        clear hi Hi
        go_wp2_with fail
        go_ret
        exact ⟨ret_bool E1.out.symm, he⟩
    · have E1 := Lib.hid (hi.done (.inl (by omega)))
      clear hi Hi
      go_wp2_with fail
      go_ret
      exact ⟨ret_bool E1.out.symm, he⟩

def eqL : List EntryD → List EntryD → Bool
  | [], [] => true
  | x :: a, y :: b => x.eqb y && eqL a b
  | _, _ => false
theorem eqL_take : ∀ (a b : List EntryD), eqL (a.take b.length) (b.take a.length) = pfx a b
  | [], b => by cases b <;> simp [eqL, pfx]
  | x :: a, [] => by simp [eqL, pfx]
  | x :: a, y :: b => by simp [eqL, pfx, eqL_take a b]
theorem eqL_len : ∀ (a b : List EntryD), a.length ≠ b.length → eqL a b = false
  | [], [], h => by simp at h
  | [], _ :: _, _ => rfl
  | _ :: _, [], _ => rfl
  | x :: a, y :: b, h => by simp only [List.length_cons, ne_eq, Nat.add_right_cancel_iff] at h; simp [eqL, eqL_len a b h]
def EqInv (a b : List EntryD) (fin : Bool) (k : Nat) : Prop := eqL (a.drop k) (b.drop k) = fin
theorem EqInv.done {a b : List EntryD} {fin : Bool} {k : Nat} (h : EqInv a b fin k) (hk : a.length ≤ k) (hk' : b.length ≤ k) : fin = true := by
  unfold EqInv at h
  rw [List.drop_eq_nil_of_le hk, List.drop_eq_nil_of_le hk'] at h
  simpa [eqL] using h.symm
theorem EqInv.step {a b : List EntryD} {fin : Bool} {k : Nat} (h : EqInv a b fin k) (ha : k < a.length) (hb : k < b.length) :
    (a[k].eqb b[k] = false → fin = false) ∧ (a[k].eqb b[k] = true → EqInv a b fin (k + 1)) := by
  unfold EqInv at h
  rw [List.drop_eq_getElem_cons ha, List.drop_eq_getElem_cons hb] at h
  simp only [eqL] at h
  refine ⟨fun e => ?_, fun e => ?_⟩
  · rw [e] at h; simpa using h.symm
  · rw [e] at h; simpa [EqInv] using h

set_option maxHeartbeats 1000000 in
set_option maxRecDepth 100000 in
theorem equalEntry_any (A A' : Option Addr) (c c' : Nat) (a b : List EntryD) (w : World) (hr : ReadsL w w.heap.size EntryD.cells 5 A a) (hr' : ReadsL w w.heap.size EntryD.cells 5 A' b) (hla : a.length ≤ 1048576) (hlb : b.length ≤ 1048576) :
    Calls Try.prog 188 #[.slice A a.length c, .slice A' b.length c'] w fun e w' => e = .returned (.bool (eqL a b)) ∧ Ext w w' := by
  by_cases h1 : a.length = b.length
  case neg =>
    have Hp := Lib.hid (eqL_len a b h1)
    have hb : ((a.length : Int) == (b.length : Int)) = false := by simp; omega
    have hb2 : ((a.length : Int) != (b.length : Int)) = true := by simp; omega
    go_enter Try.func188, Try.ntmps188
    go_wp2
    go_ret
    exact ⟨ret_bool Hp.out.symm, by go_grown⟩
  have hll : a.length ≤ b.length := by omega
  have hll2 : b.length ≤ a.length := by omega
  have hb : ((a.length : Int) != (b.length : Int)) = false := by simp; omega
  clear h1
  obtain ⟨fin, hfin⟩ : ∃ fin, fin = eqL a b := ⟨_, rfl⟩
  have Hi : EqInv a b fin 0 := by rw [hfin]; simp [EqInv]
  rw [← hfin]; clear hfin
  go_enter Try.func188, Try.ntmps188
  go_wp2
  go_loopw [13] (fun i wr => ∃ (k : Nat), k ≤ a.length ∧ i = .int .i64 k ∧ EqInv a b fin k ∧ Ext w wr) (fun i _ => a.length - (intOf i).toNat)
  case atStart => exact ⟨0, Nat.zero_le _, rfl, Hi, Below.refl _ _⟩
  case round =>
    obtain ⟨k, hk, rfl, hi, he⟩ := hrel
    by_cases hlt : k < a.length
    · have hlt' : k < b.length := by omega
      obtain ⟨s1, s2⟩ := hi.step hlt hlt'
      obtain ⟨g, off, rfl, hb, hc⟩ := (hr.below he).at_ (k := k) hlt
      obtain ⟨g', off', rfl, hb', hc'⟩ := (hr'.below he).at_ (k := k) hlt'
      obtain ⟨d, hd⟩ : ∃ d, d = a[k] := ⟨_, rfl⟩
      obtain ⟨d', hd'⟩ : ∃ d', d' = b[k] := ⟨_, rfl⟩
      have hdl : a[k]? = some d := by rw [hd]; exact List.getElem?_eq_getElem hlt
      have hdl' : b[k]? = some d' := by rw [hd']; exact List.getElem?_eq_getElem hlt'
      have c0 := hc 0 _ (flat_at _ 5 EntryD.cells_length a k 0 d hdl (by omega))
      have c1 := hc 1 _ (flat_at _ 5 EntryD.cells_length a k 1 d hdl (by omega))
      have c2 := hc 2 _ (flat_at _ 5 EntryD.cells_length a k 2 d hdl (by omega))
      have c3 := hc 3 _ (flat_at _ 5 EntryD.cells_length a k 3 d hdl (by omega))
      have c4 := hc 4 _ (flat_at _ 5 EntryD.cells_length a k 4 d hdl (by omega))
      have b0 := hc' 0 _ (flat_at _ 5 EntryD.cells_length b k 0 d' hdl' (by omega))
      have b1 := hc' 1 _ (flat_at _ 5 EntryD.cells_length b k 1 d' hdl' (by omega))
      have b2 := hc' 2 _ (flat_at _ 5 EntryD.cells_length b k 2 d' hdl' (by omega))
      have b3 := hc' 3 _ (flat_at _ 5 EntryD.cells_length b k 3 d' hdl' (by omega))
      have b4 := hc' 4 _ (flat_at _ 5 EntryD.cells_length b k 4 d' hdl' (by omega))
      rw [Nat.add_zero] at c0 b0
      rw [← hd, ← hd'] at s1 s2
      clear hc hc' hd hdl hd' hdl'
      have hne := EntryD.run_neq d d'
      have S1 := Lib.hid s1; have S2 := Lib.hid s2; clear s1 s2
      have Hii := Lib.hid hi; clear hi Hi
      cases hq : d.eqb d'
      · have E1 := Lib.hid (S1.out hq)
        go_wp2_with fail
        go_quiet (fail)
        go_wp2_with fail
        go_ret
        exact ⟨ret_bool E1.out.symm, he.drewN _⟩
      · have E1 := Lib.hid (S2.out hq)
        go_wp2_with fail
        go_quiet (fail)
        go_wp2_with fail
        go_roundw
        case rel => exact ⟨k + 1, by omega, by go_num, E1.out, he.drewN _⟩
        case measure => simp [intOf]; omega
    · have E1 := Lib.hid (hi.done (by omega) (by omega))
      clear hi Hi
      go_wp2_with fail
      go_ret
      exact ⟨ret_bool E1.out.symm, he⟩

theorem ReadsL.take {α : Type} {w : World} {B size : Nat} {f : α → List Value} {A : Option Addr} {l : List α} (hf : ∀ a, (f a).length = size) (h : ReadsL w B f size A l) (n : Nat) : ReadsL w B f size A (l.take n) := by
  refine ⟨flat_len f size hf _, fun hn => ?_⟩
  have hl : (l.take n).length ≤ l.length := by rw [List.length_take]; exact Nat.min_le_right _ _
  obtain ⟨b, off, e, hb, hc⟩ := h.2 (by omega)
  refine ⟨b, off, e, hb, fun j u hu => hc j u ?_⟩
  have e1 : l.flatMap f = (l.take n).flatMap f ++ (l.drop n).flatMap f := by rw [← List.flatMap_append, List.take_append_drop]
  rw [e1, List.getElem?_append_left (List.getElem?_eq_some_iff.1 hu).1]
  exact hu

set_option maxHeartbeats 1000000 in
set_option maxRecDepth 100000 in
theorem PrefixOf_any (g g' : Nat) (c c' : Nat) (a b : List EntryD) (w : World) (hr : ReadsL w w.heap.size EntryD.cells 5 (some ⟨g, 0, none⟩) a) (hr' : ReadsL w w.heap.size EntryD.cells 5 (some ⟨g', 0, none⟩) b) (hla : a.length ≤ 1048576) (hlb : b.length ≤ 1048576) (hca : a.length ≤ c) (hcb : b.length ≤ c') :
    Calls Try.prog 144 #[.slice (some ⟨g, 0, none⟩) a.length c, .slice (some ⟨g', 0, none⟩) b.length c'] w fun e w' => e = .returned (.bool (prefixB a b)) ∧ Ext w w' := by
  by_cases h1 : 200 < a.length
  · have Hp := Lib.hid (show prefixB a b = false by simp [prefixB]; omega)
    go_enter Try.func144, Try.ntmps144
    go_wp2
    go_ret
    exact ⟨ret_bool Hp.out.symm, by go_grown⟩
  by_cases h2 : 200 < b.length
  · have Hp := Lib.hid (show prefixB a b = false by simp [prefixB]; omega)
    go_enter Try.func144, Try.ntmps144
    go_wp2
    go_ret
    exact ⟨ret_bool Hp.out.symm, by go_grown⟩
  have ht : eqL (a.take (min a.length b.length)) (b.take (min a.length b.length)) = prefixB a b := by
    have e1 : a.take (min a.length b.length) = a.take b.length := by rw [Nat.min_comm, ← List.take_take, List.take_length]
    have e2 : b.take (min a.length b.length) = b.take a.length := by rw [← List.take_take, List.take_length]
    rw [e1, e2, eqL_take, prefixB]
    simp [show a.length ≤ 200 by omega, show b.length ≤ 200 by omega]
  have Ht := Lib.hid ht; clear ht
  obtain ⟨n, hn⟩ : ∃ n, n = min a.length b.length := ⟨_, rfl⟩
  rw [← hn] at Ht
  have ha : (a.take n).length = n := by rw [List.length_take]; omega
  have hb : (b.take n).length = n := by rw [List.length_take]; omega
  have Ha := Lib.hid ha; have Hb := Lib.hid hb; clear ha hb
  have q1 : (n : Int) ≤ (c : Int) := by omega
  have q2 : (n : Int) ≤ (c' : Int) := by omega
  by_cases h3 : a.length ≤ b.length
  · obtain rfl : n = a.length := by omega
    clear hn
    go_enter Try.func144, Try.ntmps144
    go_wp2_with fail
    go_still_tail 6, (by kernel_rfl)
    change wpList _ _ _ _ _ w.drew
    have k1 : ReadsL w.drew w.drew.heap.size EntryD.cells 5 (some ⟨g, 0, none⟩) (a.take a.length) := (hr.take EntryD.cells_length _).drew
    have k2 : ReadsL w.drew w.drew.heap.size EntryD.cells 5 (some ⟨g', 0, none⟩) (b.take a.length) := (hr'.take EntryD.cells_length _).drew
    generalize hw : w.drew = w2 at *
    have he : Ext w w2 := by rw [← hw]; exact (Below.refl _ _).drew
    clear hw
    go_wp2_with fail
    have hh := equalEntry_any _ _ c c' _ _ _ k1 k2 (by rw [Ha.out]; exact hla) (by rw [Hb.out]; exact hla)
    rw [Ha.out, Hb.out, Ht.out] at hh
    refine hh.mono ?_
    rintro e w3 ⟨rfl, h⟩
    replace he := he.next h
    go_wp2_with fail
    go_ret
    exact ⟨rfl, he⟩
  · obtain rfl : n = b.length := by omega
    clear hn
    have h4 : b.length < a.length := by omega
    go_enter Try.func144, Try.ntmps144
    go_wp2_with fail
    go_still_tail 6, (by kernel_rfl)
    change wpList _ _ _ _ _ w.drew
    have k1 : ReadsL w.drew w.drew.heap.size EntryD.cells 5 (some ⟨g, 0, none⟩) (a.take b.length) := (hr.take EntryD.cells_length _).drew
    have k2 : ReadsL w.drew w.drew.heap.size EntryD.cells 5 (some ⟨g', 0, none⟩) (b.take b.length) := (hr'.take EntryD.cells_length _).drew
    generalize hw : w.drew = w2 at *
    have he : Ext w w2 := by rw [← hw]; exact (Below.refl _ _).drew
    clear hw
    go_wp2_with fail
    have hh := equalEntry_any _ _ c c' _ _ _ k1 k2 (by rw [Ha.out]; exact hlb) (by rw [Hb.out]; exact hlb)
    rw [Ha.out, Hb.out, Ht.out] at hh
    refine hh.mono ?_
    rintro e w3 ⟨rfl, h⟩
    replace he := he.next h
    go_wp2_with fail
    go_ret
    exact ⟨rfl, he⟩
end Go.Proofs.Ytcpfgldcijkhlaa

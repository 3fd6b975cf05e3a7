/-
  Frame, frameAt: walks. No condition.
  Unframe: walks. No condition.
  The laws' own functions at lists of strings: walks. No condition.
  markText: walk. No condition.
-/
import Derived.Test.YtkcjhfidgnbdiaaSpecHash
import Derived.Test.YtkcjhfidgnbdiaaHashTop
import Derived.Test.YtkcjhfidgnbdiaaSpecDigest
import Derived.Test.YtkcjhfidgnbdiaaSpecPad
namespace Go.Proofs.Ytkcjhfidgnbdiaa
set_option linter.unusedSimpArgs false
open Go.RowKit
set_option linter.unusedVariables false

theorem dig4 {T : ByteArray} (h : inR T.size 1 1000 = true) : digestOk 4 4 T = true := by
  obtain ⟨h0, h1⟩ := inR_true h
  simp only [digestOk, Bool.and_eq_true, decide_eq_true_eq]
  exact ⟨⟨by decide, by decide⟩, by omega⟩
theorem dig4_size {T : ByteArray} (h : inR T.size 1 1000 = true) : (digest 4 4 T).size = 4 := digest_size (dig4 h)
def frameB (T : ByteArray) : ByteArray := lowB T.size 2 ++ digest 4 4 T ++ T
def frameOut (T : ByteArray) : ByteArray := if inR T.size 1 1000 then frameB T else ⟨#[]⟩
def fa0 (p : Nat) : Rd := ⟨p, false⟩
def faN (T : ByteArray) (p : Nat) : Nat := beNum (rdTake T (fa0 p) 2)
def fa1 (T : ByteArray) (p : Nat) : Rd := rdNext T (fa0 p) 2
def faSum (T : ByteArray) (p : Nat) : ByteArray := rdTake T (fa1 T p) 4
def fa2 (T : ByteArray) (p : Nat) : Rd := rdNext T (fa1 T p) 4
def faText (T : ByteArray) (p : Nat) : ByteArray := rdTake T (fa2 T p) (faN T p)
def fa3 (T : ByteArray) (p : Nat) : Rd := rdNext T (fa2 T p) (faN T p)
def faOk (T : ByteArray) (p : Nat) : Bool := !(fa3 T p).bad && inR (faN T p) 1 1000 && ((digest 4 4 (faText T p)).toList == (faSum T p).toList)
def faRes (T : ByteArray) (p : Nat) : Ending := .returned (.tuple #[.string (if faOk T p then faText T p else ⟨#[]⟩), .int .i64 (if faOk T p then ((fa3 T p).pos : Int) else 0), .bool (faOk T p)])
theorem faText_size (T : ByteArray) (p : Nat) : (faText T p).size ≤ T.size := by
  unfold faText rdTake
  split
  · exact Nat.zero_le _
  · rw [ByteArray.size_extract]; omega
end Go.Proofs.Ytkcjhfidgnbdiaa
namespace Go.Proofs.Ytkcjhfidgnbdiaa
set_option linter.unusedSimpArgs false
open Go.RowKit
set_option linter.unusedVariables false

theorem info_str : (Try.prog.info? 9).map (fun i => (i.zero, i.size, i.bytes)) = some (some (.string ⟨#[]⟩), 1, 16) := by kernel_rfl
def svals (l : List ByteArray) : List Value := l.map .string
theorem svals_len (l : List ByteArray) : (svals l).length = l.length := by simp [svals]
theorem svals_snoc (l : List ByteArray) (x : ByteArray) : svals l ++ [.string x] = svals (l ++ [x]) := by simp [svals]
def unfGo (T : ByteArray) : Nat → Nat → List ByteArray × Nat
  | 0, p => ([], p)
  | f + 1, p => if faOk T p then (faText T p :: (unfGo T f (fa3 T p).pos).1, (unfGo T f (fa3 T p).pos).2) else ([], p)
def unf (T : ByteArray) : List ByteArray × Nat := if T.size ≤ 300000 then unfGo T 600 0 else ([], 0)
theorem faOk_pos {T : ByteArray} {p : Nat} (h : faOk T p = true) : (fa3 T p).pos = p + 6 + faN T p ∧ (fa3 T p).pos ≤ T.size ∧ 1 ≤ faN T p ∧ faN T p ≤ 1000 := by
  simp only [faOk, Bool.and_eq_true, Bool.not_eq_true'] at h
  obtain ⟨⟨h1, h2⟩, h3⟩ := h
  obtain ⟨h4, h5⟩ := inR_true h2
  obtain ⟨a1, a2, a3, _⟩ := rdNext_ok h1
  obtain ⟨b1, b2, b3, _⟩ := rdNext_ok a1
  obtain ⟨c1, c2, c3, _⟩ := rdNext_ok b1
  have e1 : (fa1 T p).pos = p + 2 := c2
  have e2 : (fa2 T p).pos = (fa1 T p).pos + 4 := b2
  have e3 : (fa3 T p).pos = (fa2 T p).pos + faN T p := a2
  omega
structure UInv (T : ByteArray) (fin : List ByteArray × Nat) (l : List ByteArray) (p : Nat) : Prop where
  len : l.length ≤ 600
  pos : p ≤ T.size
  texts : l ++ (unfGo T (600 - l.length) p).1 = fin.1
  at_ : (unfGo T (600 - l.length) p).2 = fin.2
theorem UInv.done {T : ByteArray} {fin : List ByteArray × Nat} {l : List ByteArray} {p : Nat} (h : UInv T fin l p) (hl : 600 ≤ l.length) : l = fin.1 ∧ p = fin.2 := by
  have h1 := h.texts; have h2 := h.at_
  rw [show 600 - l.length = 0 by omega] at h1 h2
  exact ⟨by simpa [unfGo] using h1, h2⟩
theorem UInv.stop {T : ByteArray} {fin : List ByteArray × Nat} {l : List ByteArray} {p : Nat} (h : UInv T fin l p) (hl : l.length < 600) (hk : faOk T p = false) : l = fin.1 ∧ p = fin.2 := by
  have h1 := h.texts; have h2 := h.at_
  rw [show 600 - l.length = (599 - l.length) + 1 by omega] at h1 h2
  simp only [unfGo, hk] at h1 h2
  exact ⟨by simpa using h1, h2⟩
theorem UInv.step {T : ByteArray} {fin : List ByteArray × Nat} {l : List ByteArray} {p : Nat} (h : UInv T fin l p) (hl : l.length < 600) (hk : faOk T p = true) : UInv T fin (l ++ [faText T p]) (fa3 T p).pos := by
  have h1 := h.texts; have h2 := h.at_
  rw [show 600 - l.length = (599 - l.length) + 1 by omega] at h1 h2
  simp only [unfGo, hk, if_true] at h1 h2
  have e : 600 - (l ++ [faText T p]).length = 599 - l.length := by rw [List.length_append, List.length_singleton]; omega
  refine ⟨by simp; omega, (faOk_pos hk).2.1, ?_, ?_⟩
  · rw [e, List.append_assoc]; exact h1
  · rw [e]; exact h2
theorem ownsRow_nil (w : World) (B e size : Nat) : w.ownsRow B e size (.slice none 0 0) 0 [] := ⟨by simp, .inl ⟨rfl, rfl⟩⟩
def OwnS (W w : World) (v : Value) (l : List ByteArray) : Prop := w.ownsRow W.heap.size 9 1 v l.length (svals l)
end Go.Proofs.Ytkcjhfidgnbdiaa
namespace Go.Proofs.Ytkcjhfidgnbdiaa
set_option linter.unusedSimpArgs false
open Go.RowKit
set_option linter.unusedVariables false

theorem OwnS.reads {W w : World} {v : Value} {l : List ByteArray} (h : OwnS W w v l) : ∃ A c, v = .slice A l.length c ∧ Reads w w.heap.size 1 A l.length (svals l) := by
  obtain ⟨A, c, rfl, _⟩ := ownsRow_form h
  exact ⟨A, c, rfl, Reads.of_own h⟩
theorem svals_at {l : List ByteArray} {k : Nat} (hk : k < l.length) : (svals l)[k * 1 + 0]? = some (.string l[k]) := by
  simp [svals, List.getElem?_eq_getElem hk]
set_option maxHeartbeats 1000000 in
set_option maxRecDepth 100000 in
theorem eqStringS_same (A A' : Option Addr) (c c' : Nat) (l : List ByteArray) (w : World) (hr : Reads w w.heap.size 1 A l.length (svals l)) (hr' : Reads w w.heap.size 1 A' l.length (svals l)) (hl : l.length ≤ 1048576) :
    Calls Try.prog 21 #[.slice A l.length c, .slice A' l.length c'] w fun e w' => e = .returned (.bool true) ∧ Ext w w' := by
  go_enter Try.func21, Try.ntmps21
  go_wp2
  go_loopw [5] (fun i wr => ∃ (k : Nat), k ≤ l.length ∧ i = .int .i64 k ∧ Ext w wr) (fun i _ => l.length - (intOf i).toNat)
  case atStart => exact ⟨0, Nat.zero_le _, rfl, Below.refl _ _⟩
  case round =>
    obtain ⟨k, hk, rfl, he⟩ := hrel
    by_cases hlt : k < l.length
    · obtain ⟨b, off, rfl, hb, hc⟩ := (hr.below he).at_ (k := k) hlt
      obtain ⟨b', off', rfl, hb', hc'⟩ := (hr'.below he).at_ (k := k) hlt
      have c0 := hc 0 _ (svals_at hlt)
      have b0 := hc' 0 _ (svals_at hlt)
      rw [Nat.add_zero, Nat.mul_one] at c0 b0
      obtain ⟨x, hx⟩ : ∃ x, x = l[k] := ⟨_, rfl⟩
      rw [← hx] at c0 b0
      clear hc hc' hx
      have z0 : (0 : Int) ≤ (k : Int) := by omega
      have z1 : (k : Int) < (l.length : Int) := by omega
      go_wp2_with fail
      go_quiet (fail)
      go_wp2_with fail
      go_roundw
      case rel => exact ⟨k + 1, by omega, by go_num, he.drewN _⟩
      case measure => simp [intOf]; omega
    · go_wp2_with fail
      go_ret
      exact ⟨rfl, he⟩
end Go.Proofs.Ytkcjhfidgnbdiaa
namespace Go.Proofs.Ytkcjhfidgnbdiaa
set_option linter.unusedSimpArgs false
open Go.RowKit
set_option linter.unusedVariables false

/-- The digits of a number ahead of a text. -/
def decB : Nat → Nat → ByteArray → ByteArray
  | 0, _, t => t
  | f + 1, k, t => if k = 0 then t else decB f (k / 10) (ofInts [48 + (k : Int) % 10] ++ t)
def markB (k : Nat) : ByteArray := if k = 0 then ⟨#[109, 48]⟩ else ⟨#[109]⟩ ++ decB k k ⟨#[]⟩
theorem decB_size : ∀ (f k : Nat) (t : ByteArray), k ≤ f → (decB f k t).size ≤ t.size + k
  | 0, k, t, h => by rw [decB]; omega
  | f + 1, k, t, h => by
    rw [decB]
    split
    · omega
    · have := decB_size f (k / 10) (ofInts [48 + (k : Int) % 10] ++ t) (by omega)
      rw [ByteArray.size_append, show (ofInts [48 + (k : Int) % 10]).size = 1 from rfl] at this
      omega
set_option maxHeartbeats 1000000 in
set_option maxRecDepth 100000 in
theorem markText_any (n : Nat) (w : World) (hn : n ≤ 1099511627776) : Calls Try.prog 51 #[.int .i64 (n : Int)] w fun e w' => e = .returned (.string (markB n)) ∧ Ext w w' := by
  by_cases h0 : n = 0
  · subst h0
    go_enter Try.func51, Try.ntmps51
    go_wp2_with fail
    go_ret
    exact ⟨rfl, Below.refl _ _⟩
  have E := Lib.hid (show markB n = ⟨#[109]⟩ ++ decB n n ⟨#[]⟩ by rw [markB, if_neg h0])
  go_enter Try.func51, Try.ntmps51
  go_wp2_with fail
  go_loopw [0, 3] (fun sn st wr => ∃ (k f : Nat) (t : ByteArray), sn = .int .i64 k ∧ st = .string t ∧ k ≤ f ∧ t.size + k ≤ n ∧ Hid (decB f k t = decB n n ⟨#[]⟩) ∧ Ext w wr) (fun sn _ _ => (intOf sn).toNat)
  case atStart => exact ⟨n, n, ⟨#[]⟩, rfl, rfl, Nat.le_refl _, by show 0 + n ≤ n; omega, Lib.hid rfl, Below.refl _ _⟩
  case round =>
    obtain ⟨k, f, t, rfl, rfl, hkf, hs, eq, he⟩ := hrel
    by_cases hlt : 0 < k
    · have hconv := conv_bytes [48 + (k : Int) % 10] (by intro x hx; simp only [List.mem_singleton] at hx; subst hx; omega) wr
      simp only [List.length_cons, List.length_nil, Nat.zero_add, List.map_cons, List.map_nil] at hconv
      obtain ⟨d, hd⟩ : ∃ d, d = ofInts [48 + (k : Int) % 10] := ⟨_, rfl⟩
      have hz : d.size = 1 := by rw [hd]; rfl
      rw [← hd] at hconv
      have E1 : Hid (decB (f - 1) (k / 10) (d ++ t) = decB n n ⟨#[]⟩) := Lib.hid (by
        rw [← eq.out, hd]
        obtain ⟨g, rfl⟩ : ∃ g, f = g + 1 := ⟨f - 1, by omega⟩
        rw [decB, if_neg (by omega)]; rfl)
      have E2 : (d ++ t).size + k / 10 ≤ n := by rw [ByteArray.size_append]; omega
      have n1 : ¬ 9223372036854775807 < d.size + t.size := by omega
      clear hd
      go_wp2_with fail
      go_roundw
      case rel => exact ⟨k / 10, f - 1, _, by go_num, rfl, by omega, E2, E1, he.new _⟩
      case measure => simp [intOf]; omega
    · have E1 : Hid (t = decB n n ⟨#[]⟩) := Lib.hid (by
        rw [← eq.out]
        obtain rfl : k = 0 := by omega
        cases f <;> simp [decB])
      have n1 : ¬ 9223372036854775807 < 1 + t.size := by omega
      go_wp2_with fail
      go_ret
      exact ⟨ret_str (by rw [E.out, ← E1.out]), he⟩
end Go.Proofs.Ytkcjhfidgnbdiaa

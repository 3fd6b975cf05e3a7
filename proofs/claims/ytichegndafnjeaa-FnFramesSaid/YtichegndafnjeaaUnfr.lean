/-
  Unframe: walks. No condition.
-/
import Derived.Test.YtichegndafnjeaaFrames
import Derived.Test.YtichegndafnjeaaSpecPad
namespace Go.Proofs.Ytichegndafnjeaa
open Go.RowKit
set_option linter.unusedVariables false

theorem info_str : (Try.prog.info? 9).map (fun i => (i.zero, i.size, i.bytes)) = some (some (.string ⟨#[]⟩), 1, 16) := by kernel_rfl
def svals (l : List ByteArray) : List Value := l.map .string
theorem svals_len (l : List ByteArray) : (svals l).length = l.length := by simp [svals]
theorem svals_snoc (l : List ByteArray) (x : ByteArray) : svals l ++ [.string x] = svals (l ++ [x]) := by simp [svals]
def unfGo (T : ByteArray) : Nat → Nat → List ByteArray × Nat
  | 0, p => ([], p)
  | f + 1, p => if faOk T p then (faText T p :: (unfGo T f (fa3 T p).pos).1, (unfGo T f (fa3 T p).pos).2) else ([], p)
def unf (T : ByteArray) : List ByteArray × Nat := if T.size ≤ 300000 then unfGo T 600 0 else ([], 0)
theorem faOk_pos {T : ByteArray} {p : Nat} (h : faOk T p = true) : (fa3 T p).pos = p + 6 + faN T p ∧ (fa3 T p).pos ≤ T.size ∧ 1 ≤ faN T p ∧ faN T p ≤ 1000 := by
  simp only [faOk, Bool.and_eq_true, Bool.not_eq_true'] at h
  obtain ⟨⟨h1, h2⟩, h3⟩ := h
  obtain ⟨h4, h5⟩ := inR_true h2
  obtain ⟨a1, a2, a3, _⟩ := rdNext_ok h1
  obtain ⟨b1, b2, b3, _⟩ := rdNext_ok a1
  obtain ⟨c1, c2, c3, _⟩ := rdNext_ok b1
  have e1 : (fa1 T p).pos = p + 2 := c2
  have e2 : (fa2 T p).pos = (fa1 T p).pos + 4 := b2
  have e3 : (fa3 T p).pos = (fa2 T p).pos + faN T p := a2
  omega
structure UInv (T : ByteArray) (fin : List ByteArray × Nat) (l : List ByteArray) (p : Nat) : Prop where
  len : l.length ≤ 600
  pos : p ≤ T.size
  texts : l ++ (unfGo T (600 - l.length) p).1 = fin.1
  at_ : (unfGo T (600 - l.length) p).2 = fin.2
theorem UInv.done {T : ByteArray} {fin : List ByteArray × Nat} {l : List ByteArray} {p : Nat} (h : UInv T fin l p) (hl : 600 ≤ l.length) : l = fin.1 ∧ p = fin.2 := by
  have h1 := h.texts; have h2 := h.at_
  rw [show 600 - l.length = 0 by omega] at h1 h2
  exact ⟨by simpa [unfGo] using h1, h2⟩
theorem UInv.stop {T : ByteArray} {fin : List ByteArray × Nat} {l : List ByteArray} {p : Nat} (h : UInv T fin l p) (hl : l.length < 600) (hk : faOk T p = false) : l = fin.1 ∧ p = fin.2 := by
  have h1 := h.texts; have h2 := h.at_
  rw [show 600 - l.length = (599 - l.length) + 1 by omega] at h1 h2
  simp only [unfGo, hk] at h1 h2
  exact ⟨by simpa using h1, h2⟩
theorem UInv.step {T : ByteArray} {fin : List ByteArray × Nat} {l : List ByteArray} {p : Nat} (h : UInv T fin l p) (hl : l.length < 600) (hk : faOk T p = true) : UInv T fin (l ++ [faText T p]) (fa3 T p).pos := by
  have h1 := h.texts; have h2 := h.at_
  rw [show 600 - l.length = (599 - l.length) + 1 by omega] at h1 h2
  simp only [unfGo, hk, if_true] at h1 h2
  have e : 600 - (l ++ [faText T p]).length = 599 - l.length := by rw [List.length_append, List.length_singleton]; omega
  refine ⟨by simp; omega, (faOk_pos hk).2.1, ?_, ?_⟩
  · rw [e, List.append_assoc]; exact h1
  · rw [e]; exact h2
theorem ownsRow_nil (w : World) (B e size : Nat) : w.ownsRow B e size (.slice none 0 0) 0 [] := ⟨by simp, .inl ⟨rfl, rfl⟩⟩
def OwnS (W w : World) (v : Value) (l : List ByteArray) : Prop := w.ownsRow W.heap.size 9 1 v l.length (svals l)
set_option maxHeartbeats 2000000 in
set_option maxRecDepth 100000 in
theorem implUnframe_any (T : ByteArray) (w : World) (hT : T.size ≤ 1099511627776) :
    Calls Try.prog 27 #[.string T] w fun e w' => ∃ v, e = .returned (.tuple #[v, .int .i64 ((unf T).2 : Int)]) ∧ OwnS w w' v (unf T).1 ∧ Ext w w' := by
  by_cases hbig : 300000 < T.size
  · have E := Lib.hid (show unf T = ([], 0) by rw [unf, if_neg (by omega)])
    go_enter Try.func27, Try.ntmps27
    go_wp2_with fail
    go_ret2
    exact ⟨_, by rw [E.out]; rfl, by rw [E.out]; exact ownsRow_nil _ _ _ _, Below.refl _ _⟩
  obtain ⟨fin, hfin⟩ : ∃ fin, fin = unf T := ⟨_, rfl⟩
  have Hi : UInv T fin [] 0 := by rw [hfin, unf, if_pos (by omega)]; exact ⟨by simp, Nat.zero_le _, rfl, rfl⟩
  rw [← hfin]
  clear hfin
  obtain ⟨i0, hi, hz0, hz1, hz2⟩ := info_parts info_str
  go_enter Try.func27, Try.ntmps27
  go_wp2_with fail
  have H0 := Lib.hid (ownsRow_nil w w.heap.size 9 1)
  have HE := Lib.hid (Below.refl w.heap.size w)
  obtain ⟨B, hB⟩ : ∃ B, B = w.heap.size := ⟨_, rfl⟩
  rw [← hB] at H0
  have Hb : w.heap.size ≤ B := by omega
  have HB := Lib.hid hB
  clear hB
  go_loopw [4, 5] (fun v x wr => ∃ (l : List ByteArray) (p : Nat), UInv T fin l p ∧ x = .int .i64 (p : Int) ∧ wr.ownsRow B 9 1 v l.length (svals l) ∧ Ext w wr) (fun _ x _ => T.size - (intOf x).toNat)
  case atStart => exact ⟨[], 0, Hi, rfl, H0.out, HE.out⟩
  case round =>
    clear H0 HE Hi
    obtain ⟨l, p, hu, rfl, hown, he⟩ := hrel
    obtain ⟨A, c, rfl, hnc⟩ := ownsRow_form hown
    have KO := Lib.hid hown
    clear hown
    have hul := hu.len
    have hup := hu.pos
    by_cases hlt : l.length < 600
    · go_wp2_with fail
      refine (frameAt_any T p _ hT hup).mono ?_
      rintro e w1 ⟨he1, h1⟩
      rw [faRes] at he1
      replace he := he.next h1
      have KO1 := Lib.hid (ownsRow_ext KO.out h1)
      clear h1 KO
      cases b : faOk T p
      · rw [b] at he1
        subst he1
        obtain ⟨e1, e2⟩ := hu.stop hlt b
        have HF : Hid (OwnS w w1 (.slice A l.length c) fin.1) := Lib.hid (by have := KO1.out; rw [HB.out, e1] at this; unfold OwnS; rw [e1]; exact this)
        have HP := Lib.hid e2
        clear e1 e2 hu KO1
        go_wp2_with fail
        go_ret2
        exact ⟨_, by rw [HP.out]; rfl, HF.out, he⟩
      · rw [b] at he1
        subst he1
        obtain ⟨y, hy⟩ : ∃ y, y = faText T p := ⟨_, rfl⟩
        obtain ⟨q, hq⟩ : ∃ q, q = (fa3 T p).pos := ⟨_, rfl⟩
        have Hu := Lib.hid (hu.step hlt b)
        have hpq := faOk_pos b
        rw [← hq] at hpq Hu
        rw [← hy] at Hu
        simp only [if_true]
        rw [← hy, ← hq]
        clear hy hq hu
        have hB2 : B ≤ w1.heap.size := by have := he.size; have := HB.out; omega
        go_wp2_with (at_builtin; refine wpList_append_own _ rfl _ _ 24 rfl B 9 i0 (.string ⟨#[]⟩) 1 16 Try.underlying24 hi hz0 hz1 hz2 rfl (by decide) _ _ _ rfl (KO1.out.alloc _) ⟨w1.heap.size, 0, none⟩ 1 1 [.string y] rfl rfl ?c1 ?c2 ?c3 ?c4 ?c5 ?_)
        case c1 => exact one_at _ _ _
        case c2 => exact one_cell rfl
        case c3 => unfold maxLen; omega
        case c4 => omega
        case c5 => simp; omega
        intro v' w2 hown' hgrow _
        have he1 := Ext.ownGrown (Ext.new he _) (KO1.out.alloc _) hgrow Hb
        rw [svals_snoc] at hown'
        have KO' := Lib.hid hown'
        clear hown' hgrow KO1 he
        go_wp2_with fail
        go_roundw
        case rel => exact ⟨l ++ [y], q, Hu.out, congrArg (Value.int .i64) (by omega), by have := KO'.out; simpa using this, he1⟩
        case measure => simp [intOf]; omega
    · obtain ⟨e1, e2⟩ := hu.done (by omega)
      have HF : Hid (OwnS w wr (.slice A l.length c) fin.1) := Lib.hid (by have := KO.out; rw [HB.out, e1] at this; unfold OwnS; rw [e1]; exact this)
      have HP := Lib.hid e2
      clear e1 e2 hu KO
      go_wp2_with fail
      go_ret2
      exact ⟨_, by rw [HP.out]; rfl, HF.out, he⟩
end Go.Proofs.Ytichegndafnjeaa

/-
  Unframe: walks. No condition.
  The laws' own functions at lists of strings: walks. No condition.
  markText: walk. No condition.
  What the laws' marking writes into a row of flat things. No condition.
-/
import Derived.Test.YtkcjhfidgnbdiaaGreatFrames
import Derived.Test.YtkcjhfidgnbdiaaGreatSpecPad
import Derived.Test.YtkcjhfidgnbdiaaGreatMem
namespace Go.Proofs.YtkcjhfidgnbdiaaGreat
set_option linter.unusedSimpArgs false
open Go.RowKit
set_option linter.unusedVariables false

theorem info_str : (Tryz.prog.info? 9).map (fun i => (i.zero, i.size, i.bytes)) = some (some (.string ⟨#[]⟩), 1, 16) := by kernel_rfl
def svals (l : List ByteArray) : List Value := l.map .string
theorem svals_len (l : List ByteArray) : (svals l).length = l.length := by simp [svals]
theorem svals_snoc (l : List ByteArray) (x : ByteArray) : svals l ++ [.string x] = svals (l ++ [x]) := by simp [svals]
def unfGo (T : ByteArray) : Nat → Nat → List ByteArray × Nat
  | 0, p => ([], p)
  | f + 1, p => if faOk T p then (faText T p :: (unfGo T f (fa3 T p).pos).1, (unfGo T f (fa3 T p).pos).2) else ([], p)
def unf (T : ByteArray) : List ByteArray × Nat := if T.size ≤ 300000 then unfGo T 600 0 else ([], 0)
theorem faOk_pos {T : ByteArray} {p : Nat} (h : faOk T p = true) : (fa3 T p).pos = p + 6 + faN T p ∧ (fa3 T p).pos ≤ T.size ∧ 1 ≤ faN T p ∧ faN T p ≤ 1000 := by
  simp only [faOk, Bool.and_eq_true, Bool.not_eq_true'] at h
  obtain ⟨⟨h1, h2⟩, h3⟩ := h
  obtain ⟨h4, h5⟩ := inR_true h2
  obtain ⟨a1, a2, a3, _⟩ := rdNext_ok h1
  obtain ⟨b1, b2, b3, _⟩ := rdNext_ok a1
  obtain ⟨c1, c2, c3, _⟩ := rdNext_ok b1
  have e1 : (fa1 T p).pos = p + 2 := c2
  have e2 : (fa2 T p).pos = (fa1 T p).pos + 4 := b2
  have e3 : (fa3 T p).pos = (fa2 T p).pos + faN T p := a2
  omega
structure UInv (T : ByteArray) (fin : List ByteArray × Nat) (l : List ByteArray) (p : Nat) : Prop where
  len : l.length ≤ 600
  pos : p ≤ T.size
  texts : l ++ (unfGo T (600 - l.length) p).1 = fin.1
  at_ : (unfGo T (600 - l.length) p).2 = fin.2
theorem UInv.done {T : ByteArray} {fin : List ByteArray × Nat} {l : List ByteArray} {p : Nat} (h : UInv T fin l p) (hl : 600 ≤ l.length) : l = fin.1 ∧ p = fin.2 := by
  have h1 := h.texts; have h2 := h.at_
  rw [show 600 - l.length = 0 by omega] at h1 h2
  exact ⟨by simpa [unfGo] using h1, h2⟩
theorem UInv.stop {T : ByteArray} {fin : List ByteArray × Nat} {l : List ByteArray} {p : Nat} (h : UInv T fin l p) (hl : l.length < 600) (hk : faOk T p = false) : l = fin.1 ∧ p = fin.2 := by
  have h1 := h.texts; have h2 := h.at_
  rw [show 600 - l.length = (599 - l.length) + 1 by omega] at h1 h2
  simp only [unfGo, hk] at h1 h2
  exact ⟨by simpa using h1, h2⟩
theorem UInv.step {T : ByteArray} {fin : List ByteArray × Nat} {l : List ByteArray} {p : Nat} (h : UInv T fin l p) (hl : l.length < 600) (hk : faOk T p = true) : UInv T fin (l ++ [faText T p]) (fa3 T p).pos := by
  have h1 := h.texts; have h2 := h.at_
  rw [show 600 - l.length = (599 - l.length) + 1 by omega] at h1 h2
  simp only [unfGo, hk, if_true] at h1 h2
  have e : 600 - (l ++ [faText T p]).length = 599 - l.length := by rw [List.length_append, List.length_singleton]; omega
  refine ⟨by simp; omega, (faOk_pos hk).2.1, ?_, ?_⟩
  · rw [e, List.append_assoc]; exact h1
  · rw [e]; exact h2
theorem ownsRow_nil (w : World) (B e size : Nat) : w.ownsRow B e size (.slice none 0 0) 0 [] := ⟨by simp, .inl ⟨rfl, rfl⟩⟩
def OwnS (W w : World) (v : Value) (l : List ByteArray) : Prop := w.ownsRow W.heap.size 9 1 v l.length (svals l)
set_option maxHeartbeats 2000000 in
set_option maxRecDepth 100000 in
theorem implUnframe_any (T : ByteArray) (w : World) (hT : T.size ≤ 1099511627776) :
    Calls Tryz.prog 117 #[.string T] w fun e w' => ∃ v, e = .returned (.tuple #[v, .int .i64 ((unf T).2 : Int)]) ∧ OwnS w w' v (unf T).1 ∧ Ext w w' := by
  by_cases hbig : 300000 < T.size
  · have E := Lib.hid (show unf T = ([], 0) by rw [unf, if_neg (by omega)])
    go_enter Tryz.func117, Tryz.ntmps117
    go_wp2_with fail
    go_ret2
    exact ⟨_, by rw [E.out]; rfl, by rw [E.out]; exact ownsRow_nil _ _ _ _, Below.refl _ _⟩
  obtain ⟨fin, hfin⟩ : ∃ fin, fin = unf T := ⟨_, rfl⟩
  have Hi : UInv T fin [] 0 := by rw [hfin, unf, if_pos (by omega)]; exact ⟨by simp, Nat.zero_le _, rfl, rfl⟩
  rw [← hfin]
  clear hfin
  obtain ⟨i0, hi, hz0, hz1, hz2⟩ := info_parts info_str
  go_enter Tryz.func117, Tryz.ntmps117
  go_wp2_with fail
  have H0 := Lib.hid (ownsRow_nil w w.heap.size 9 1)
  have HE := Lib.hid (Below.refl w.heap.size w)
  obtain ⟨B, hB⟩ : ∃ B, B = w.heap.size := ⟨_, rfl⟩
  rw [← hB] at H0
  have Hb : w.heap.size ≤ B := by omega
  have HB := Lib.hid hB
  clear hB
  go_loopw [4, 5] (fun v x wr => ∃ (l : List ByteArray) (p : Nat), UInv T fin l p ∧ x = .int .i64 (p : Int) ∧ wr.ownsRow B 9 1 v l.length (svals l) ∧ Ext w wr) (fun _ x _ => T.size - (intOf x).toNat)
  case atStart => exact ⟨[], 0, Hi, rfl, H0.out, HE.out⟩
  case round =>
    clear H0 HE Hi
    obtain ⟨l, p, hu, rfl, hown, he⟩ := hrel
    obtain ⟨A, c, rfl, hnc⟩ := ownsRow_form hown
    have KO := Lib.hid hown
    clear hown
    have hul := hu.len
    have hup := hu.pos
    by_cases hlt : l.length < 600
    · go_wp2_with fail
      refine (frameAt_any T p _ hT hup).mono ?_
      rintro e w1 ⟨he1, h1⟩
      rw [faRes] at he1
      replace he := he.next h1
      have KO1 := Lib.hid (ownsRow_ext KO.out h1)
      clear h1 KO
      cases b : faOk T p
      · rw [b] at he1
        subst he1
        obtain ⟨e1, e2⟩ := hu.stop hlt b
        have HF : Hid (OwnS w w1 (.slice A l.length c) fin.1) := Lib.hid (by have := KO1.out; rw [HB.out, e1] at this; unfold OwnS; rw [e1]; exact this)
        have HP := Lib.hid e2
        clear e1 e2 hu KO1
        go_wp2_with fail
        go_ret2
        exact ⟨_, by rw [HP.out]; rfl, HF.out, he⟩
      · rw [b] at he1
        subst he1
        obtain ⟨y, hy⟩ : ∃ y, y = faText T p := ⟨_, rfl⟩
        obtain ⟨q, hq⟩ : ∃ q, q = (fa3 T p).pos := ⟨_, rfl⟩
        have Hu := Lib.hid (hu.step hlt b)
        have hpq := faOk_pos b
        rw [← hq] at hpq Hu
        rw [← hy] at Hu
        simp only [if_true]
        rw [← hy, ← hq]
        clear hy hq hu
        have hB2 : B ≤ w1.heap.size := by have := he.size; have := HB.out; omega
        go_wp2_with (at_builtin; refine wpList_append_own _ rfl _ _ 29 rfl B 9 i0 (.string ⟨#[]⟩) 1 16 Tryz.underlying29 hi hz0 hz1 hz2 rfl (by decide) _ _ _ rfl (KO1.out.alloc _) ⟨w1.heap.size, 0, none⟩ 1 1 [.string y] rfl rfl ?c1 ?c2 ?c3 ?c4 ?c5 ?_)
        case c1 => exact one_at _ _ _
        case c2 => exact one_cell rfl
        case c3 => unfold maxLen; omega
        case c4 => omega
        case c5 => simp; omega
        intro v' w2 hown' hgrow _
        have he1 := Ext.ownGrown (Ext.new he _) (KO1.out.alloc _) hgrow Hb
        rw [svals_snoc] at hown'
        have KO' := Lib.hid hown'
        clear hown' hgrow KO1 he
        go_wp2_with fail
        go_roundw
        case rel => exact ⟨l ++ [y], q, Hu.out, congrArg (Value.int .i64) (by omega), by have := KO'.out; simpa using this, he1⟩
        case measure => simp [intOf]; omega
    · obtain ⟨e1, e2⟩ := hu.done (by omega)
      have HF : Hid (OwnS w wr (.slice A l.length c) fin.1) := Lib.hid (by have := KO.out; rw [HB.out, e1] at this; unfold OwnS; rw [e1]; exact this)
      have HP := Lib.hid e2
      clear e1 e2 hu KO
      go_wp2_with fail
      go_ret2
      exact ⟨_, by rw [HP.out]; rfl, HF.out, he⟩
end Go.Proofs.YtkcjhfidgnbdiaaGreat
namespace Go.Proofs.YtkcjhfidgnbdiaaGreat
set_option linter.unusedSimpArgs false
open Go.RowKit
set_option linter.unusedVariables false

theorem OwnS.reads {W w : World} {v : Value} {l : List ByteArray} (h : OwnS W w v l) : ∃ A c, v = .slice A l.length c ∧ Reads w w.heap.size 1 A l.length (svals l) := by
  obtain ⟨A, c, rfl, _⟩ := ownsRow_form h
  exact ⟨A, c, rfl, Reads.of_own h⟩
theorem svals_at {l : List ByteArray} {k : Nat} (hk : k < l.length) : (svals l)[k * 1 + 0]? = some (.string l[k]) := by
  simp [svals, List.getElem?_eq_getElem hk]
set_option maxHeartbeats 1000000 in
set_option maxRecDepth 100000 in
theorem eqStringS_same (A A' : Option Addr) (c c' : Nat) (l : List ByteArray) (w : World) (hr : Reads w w.heap.size 1 A l.length (svals l)) (hr' : Reads w w.heap.size 1 A' l.length (svals l)) (hl : l.length ≤ 1048576) :
    Calls Tryz.prog 29 #[.slice A l.length c, .slice A' l.length c'] w fun e w' => e = .returned (.bool true) ∧ Ext w w' := by
  go_enter Tryz.func29, Tryz.ntmps29
  go_wp2
  go_loopw [5] (fun i wr => ∃ (k : Nat), k ≤ l.length ∧ i = .int .i64 k ∧ Ext w wr) (fun i _ => l.length - (intOf i).toNat)
  case atStart => exact ⟨0, Nat.zero_le _, rfl, Below.refl _ _⟩
  case round =>
    obtain ⟨k, hk, rfl, he⟩ := hrel
    by_cases hlt : k < l.length
    · obtain ⟨b, off, rfl, hb, hc⟩ := (hr.below he).at_ (k := k) hlt
      obtain ⟨b', off', rfl, hb', hc'⟩ := (hr'.below he).at_ (k := k) hlt
      have c0 := hc 0 _ (svals_at hlt)
      have b0 := hc' 0 _ (svals_at hlt)
      rw [Nat.add_zero, Nat.mul_one] at c0 b0
      obtain ⟨x, hx⟩ : ∃ x, x = l[k] := ⟨_, rfl⟩
      rw [← hx] at c0 b0
      clear hc hc' hx
      have z0 : (0 : Int) ≤ (k : Int) := by omega
      have z1 : (k : Int) < (l.length : Int) := by omega
      go_wp2_with fail
      go_quiet (fail)
      go_wp2_with fail
      go_roundw
      case rel => exact ⟨k + 1, by omega, by go_num, he.drewN _⟩
      case measure => simp [intOf]; omega
    · go_wp2_with fail
      go_ret
      exact ⟨rfl, he⟩
end Go.Proofs.YtkcjhfidgnbdiaaGreat
namespace Go.Proofs.YtkcjhfidgnbdiaaGreat
set_option linter.unusedSimpArgs false
open Go.RowKit
set_option linter.unusedVariables false

/-- The digits of a number ahead of a text. -/
def decB : Nat → Nat → ByteArray → ByteArray
  | 0, _, t => t
  | f + 1, k, t => if k = 0 then t else decB f (k / 10) (ofInts [48 + (k : Int) % 10] ++ t)
def markB (k : Nat) : ByteArray := if k = 0 then ⟨#[109, 48]⟩ else ⟨#[109]⟩ ++ decB k k ⟨#[]⟩
theorem decB_size : ∀ (f k : Nat) (t : ByteArray), k ≤ f → (decB f k t).size ≤ t.size + k
  | 0, k, t, h => by rw [decB]; omega
  | f + 1, k, t, h => by
    rw [decB]
    split
    · omega
    · have := decB_size f (k / 10) (ofInts [48 + (k : Int) % 10] ++ t) (by omega)
      rw [ByteArray.size_append, show (ofInts [48 + (k : Int) % 10]).size = 1 from rfl] at this
      omega
set_option maxHeartbeats 1000000 in
set_option maxRecDepth 100000 in
theorem markText_any (n : Nat) (w : World) (hn : n ≤ 1099511627776) : Calls Tryz.prog 86 #[.int .i64 (n : Int)] w fun e w' => e = .returned (.string (markB n)) ∧ Ext w w' := by
  by_cases h0 : n = 0
  · subst h0
    go_enter Tryz.func86, Tryz.ntmps86
    go_wp2_with fail
    go_ret
    exact ⟨rfl, Below.refl _ _⟩
  have E := Lib.hid (show markB n = ⟨#[109]⟩ ++ decB n n ⟨#[]⟩ by rw [markB, if_neg h0])
  go_enter Tryz.func86, Tryz.ntmps86
  go_wp2_with fail
  go_loopw [0, 3] (fun sn st wr => ∃ (k f : Nat) (t : ByteArray), sn = .int .i64 k ∧ st = .string t ∧ k ≤ f ∧ t.size + k ≤ n ∧ Hid (decB f k t = decB n n ⟨#[]⟩) ∧ Ext w wr) (fun sn _ _ => (intOf sn).toNat)
  case atStart => exact ⟨n, n, ⟨#[]⟩, rfl, rfl, Nat.le_refl _, by show 0 + n ≤ n; omega, Lib.hid rfl, Below.refl _ _⟩
  case round =>
    obtain ⟨k, f, t, rfl, rfl, hkf, hs, eq, he⟩ := hrel
    by_cases hlt : 0 < k
    · have hconv := conv_bytes [48 + (k : Int) % 10] (by intro x hx; simp only [List.mem_singleton] at hx; subst hx; omega) wr
      simp only [List.length_cons, List.length_nil, Nat.zero_add, List.map_cons, List.map_nil] at hconv
      obtain ⟨d, hd⟩ : ∃ d, d = ofInts [48 + (k : Int) % 10] := ⟨_, rfl⟩
      have hz : d.size = 1 := by rw [hd]; rfl
      rw [← hd] at hconv
      have E1 : Hid (decB (f - 1) (k / 10) (d ++ t) = decB n n ⟨#[]⟩) := Lib.hid (by
        rw [← eq.out, hd]
        obtain ⟨g, rfl⟩ : ∃ g, f = g + 1 := ⟨f - 1, by omega⟩
        rw [decB, if_neg (by omega)]; rfl)
      have E2 : (d ++ t).size + k / 10 ≤ n := by rw [ByteArray.size_append]; omega
      have n1 : ¬ 9223372036854775807 < d.size + t.size := by omega
      clear hd
      go_wp2_with fail
      go_roundw
      case rel => exact ⟨k / 10, f - 1, _, by go_num, rfl, by omega, E2, E1, he.new _⟩
      case measure => simp [intOf]; omega
    · have E1 : Hid (t = decB n n ⟨#[]⟩) := Lib.hid (by
        rw [← eq.out]
        obtain rfl : k = 0 := by omega
        cases f <;> simp [decB])
      have n1 : ¬ 9223372036854775807 < 1 + t.size := by omega
      go_wp2_with fail
      go_ret
      exact ⟨ret_str (by rw [E.out, ← E1.out]), he⟩
end Go.Proofs.YtkcjhfidgnbdiaaGreat
namespace Go.Proofs.YtkcjhfidgnbdiaaGreat
set_option linter.unusedSimpArgs false
open Go.RowKit
set_option linter.unusedVariables false

def setAll : Array Value → Nat → List Value → Array Value
  | cs, _, [] => cs
  | cs, o, v :: vs => setAll (cs.setIfInBounds o v) (o + 1) vs
theorem setAll_eq : ∀ (vs : List Value) (o : Nat) (cs : Array Value), o + vs.length ≤ cs.size → setAll cs o vs = (cs.toList.take o ++ vs ++ cs.toList.drop (o + vs.length)).toArray
  | [], o, cs, hs => by simp [setAll]
  | v :: vs, o, cs, hs => by
    simp only [List.length_cons] at hs
    have hl : o < (cs.toList.set o v).length := by simp; omega
    have a : (cs.toList.set o v).take (o + 1) = cs.toList.take o ++ [v] := by
      rw [List.take_succ_eq_append_getElem hl, List.take_set_of_le (Nat.le_refl _), List.getElem_set_self]
    have b : (cs.toList.set o v).drop (o + 1 + vs.length) = cs.toList.drop (o + 1 + vs.length) := List.drop_set_of_lt (by omega)
    rw [setAll, setAll_eq vs (o + 1) _ (by simp; omega), Array.toList_setIfInBounds, a, b, show o + (v :: vs).length = o + 1 + vs.length by simp; omega]
    simp
/-- A row of which the first k things are those of l; behind them it is as it was. -/
def rowAt {α : Type} (f : α → List Value) (size : Nat) (l : List α) (cs : Array Value) (k : Nat) : Array Value := ((l.take k).flatMap f ++ cs.toList.drop (k * size)).toArray
section
variable {α : Type} {f : α → List Value} {size : Nat} {l : List α} {cs : Array Value} {k : Nat}
theorem rowAt_zero : rowAt f size l cs 0 = cs := by simp [rowAt]
theorem rowAt_size (hf : ∀ a, (f a).length = size) (hZ : l.length * size ≤ cs.size) (hk : k ≤ l.length) : (rowAt f size l cs k).size = cs.size := by
  have e2 : k * size ≤ l.length * size := Nat.mul_le_mul_right _ hk
  simp only [rowAt, List.size_toArray, List.length_append, flat_len f size hf, List.length_take, List.length_drop, Array.length_toList]
  rw [Nat.min_eq_left hk]
  omega
theorem rowAt_step (hf : ∀ a, (f a).length = size) (hZ : l.length * size ≤ cs.size) (hk : k < l.length) : setAll (rowAt f size l cs k) (k * size) (f l[k]) = rowAt f size l cs (k + 1) := by
  have e2 : (k + 1) * size ≤ l.length * size := Nat.mul_le_mul_right _ hk
  have e3 := e2
  rw [Nat.succ_mul] at e2
  have hl1 : ((l.take k).flatMap f).length = k * size := by rw [flat_len f size hf, List.length_take, Nat.min_eq_left (by omega)]
  rw [setAll_eq _ _ _ (by rw [rowAt_size hf hZ (by omega), hf]; omega)]
  have e1 : (l.take (k + 1)).flatMap f = (l.take k).flatMap f ++ f l[k] := by rw [List.take_succ_eq_append_getElem hk, List.flatMap_append]; simp
  unfold rowAt
  rw [e1]
  generalize (l.take k).flatMap f = X at hl1
  have q1 : (X ++ cs.toList.drop (k * size)).take (k * size) = X := by rw [List.take_append_of_le_length (by omega), List.take_of_length_le (by omega)]
  have q2 : (X ++ cs.toList.drop (k * size)).drop (k * size + size) = cs.toList.drop ((k + 1) * size) := by
    rw [List.drop_append, List.drop_eq_nil_of_le (by omega), List.nil_append, List.drop_drop, hl1, show k * size + (k * size + size - k * size) = (k + 1) * size by rw [Nat.succ_mul]; omega]
  simp only [hf, q1, q2]
theorem rowAt_reads (hf : ∀ a, (f a).length = size) {w : World} {g t : Nat} (h : Blk w g t (rowAt f size l cs l.length)) : ReadsL w w.heap.size f size (some ⟨g, 0, none⟩) l := by
  refine ⟨flat_len f size hf l, fun _ => ⟨g, 0, rfl, h.lt, fun j u hu => ?_⟩⟩
  rw [Nat.zero_add, h.cell]
  have hj : j < (l.flatMap f).length := (List.getElem?_eq_some_iff.1 hu).1
  simp only [rowAt, List.take_length, List.getElem?_toArray]
  rw [List.getElem?_append_left hj]
  exact hu
end
theorem Blk.has {w : World} {g t : Nat} {cs : Array Value} (h : Blk w g t cs) {i : Nat} (hi : i < cs.size) : ∃ v, w.cell? ⟨g, i, none⟩ = some v := ⟨_, by rw [h.cell]; exact Array.getElem?_eq_getElem hi⟩
theorem markText_int (x : Int) (n : Nat) (hx : x = (n : Int)) (w : World) (hn : n ≤ 1099511627776) : Calls Tryz.prog 86 #[.int .i64 x] w fun e w' => e = .returned (.string (markB n)) ∧ Ext w w' := by
  subst hx; exact markText_any n w hn
end Go.Proofs.YtkcjhfidgnbdiaaGreat

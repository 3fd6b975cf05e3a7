/-
  NameOk: walks. No condition.
  What a law's arguments are: cells of known kinds; slices that read as lists. No condition.
-/
import Derived.Test.YtkcjhfidgnbdiaaGreatProg
import Derived.Test.YtkcjhfidgnbdiaaGreatSmall
namespace Go.Proofs.YtkcjhfidgnbdiaaGreat
set_option linter.unusedSimpArgs false
open Go.RowKit
set_option linter.unusedVariables false

def nameByte (c : UInt8) : Bool := decide (97 ≤ (c.toNat : Int) ∧ (c.toNat : Int) ≤ 122 ∨ 48 ≤ (c.toNat : Int) ∧ (c.toNat : Int) ≤ 57 ∨ (c.toNat : Int) = 45)
def nameOk (s : ByteArray) : Bool := inR s.size 1 20 && s.data.toList.all nameByte

def AllInv (p : UInt8 → Bool) (s : ByteArray) (fin : Bool) (k : Nat) : Prop := (s.data.toList.drop k).all p = fin
theorem AllInv.done {p : UInt8 → Bool} {s : ByteArray} {fin : Bool} {k : Nat} (h : AllInv p s fin k) (hk : s.size ≤ k) : fin = true := by
  unfold AllInv at h
  rw [List.drop_eq_nil_of_le (by simpa using hk)] at h
  simpa using h.symm
theorem AllInv.step {p : UInt8 → Bool} {s : ByteArray} {fin : Bool} {k : Nat} (h : AllInv p s fin k) (hk : k < s.size) : (p s[k] = false → fin = false) ∧ (p s[k] = true → AllInv p s fin (k + 1)) := by
  unfold AllInv at h
  rw [List.drop_eq_getElem_cons (by simpa using hk)] at h
  have e : s.data.toList[k]'(by simpa using hk) = s[k] := rfl
  rw [e] at h
  simp only [List.all_cons] at h
  exact ⟨fun e => by rw [e] at h; simpa using h.symm, fun e => by rw [e] at h; simpa [AllInv] using h⟩
theorem ret_bool {a b : Bool} (h : a = b) : Ending.returned (.bool a) = .returned (.bool b) := by rw [h]
theorem Ext.drewN {W w : World} (h : Ext W w) (n : Nat) : Ext W (w.drewN n) := ⟨h.os, h.tape, h.output, h.size, h.block⟩

set_option maxHeartbeats 1000000 in
theorem specNameOk_any (s : ByteArray) (w : World) (hs : s.size ≤ maxLen) :
    Calls Tryz.prog 175 #[.string s] w fun e w' => e = .returned (.bool (nameOk s)) ∧ w = w' := by
  unfold maxLen at hs
  cases hin : inR s.size 1 20
  · have Hp := Lib.hid (show nameOk s = false by simp [nameOk, hin])
    go_enter Tryz.func175, Tryz.ntmps175
    go_wp2_with (go_at_call 174; refine (l01In_any _ _ _ _).mono ?_; rintro e w' ⟨rfl, rfl⟩)
    go_ret
    exact ⟨ret_bool Hp.out.symm, rfl⟩
  · obtain ⟨fin, hfin⟩ : ∃ fin, fin = nameOk s := ⟨_, rfl⟩
    have Hi : AllInv nameByte s fin 0 := by rw [hfin]; simp [AllInv, nameOk, hin]
    rw [← hfin]; clear hfin
    go_enter Tryz.func175, Tryz.ntmps175
    go_wp2_with (go_at_call 174; refine (l01In_any _ _ _ _).mono ?_; rintro e w' ⟨rfl, rfl⟩)
    go_loop [3] (fun i => ∃ k : Nat, k ≤ s.size ∧ i = .int .i64 k ∧ AllInv nameByte s fin k) (fun i => s.size - (intOf i).toNat)
    case atStart => exact ⟨0, Nat.zero_le _, rfl, Hi⟩
    case round =>
      obtain ⟨k, hk, rfl, hi⟩ := hrel
      clear Hi
      by_cases hlt : k < s.size
      · obtain ⟨s1, s2⟩ := hi.step hlt
        clear hi
        have S1 := Lib.hid s1; have S2 := Lib.hid s2; clear s1 s2
        have h7 : (s[k].toNat : Int) < 45 ∨ (45 ≤ (s[k].toNat : Int) ∧ (s[k].toNat : Int) ≤ 45) ∨ (46 ≤ (s[k].toNat : Int) ∧ (s[k].toNat : Int) ≤ 47) ∨ (48 ≤ (s[k].toNat : Int) ∧ (s[k].toNat : Int) ≤ 57) ∨ (58 ≤ (s[k].toNat : Int) ∧ (s[k].toNat : Int) ≤ 96) ∨ (97 ≤ (s[k].toNat : Int) ∧ (s[k].toNat : Int) ≤ 122) ∨ 122 < (s[k].toNat : Int) := by omega
        rcases h7 with h | ⟨h, h'⟩ | ⟨h, h'⟩ | ⟨h, h'⟩ | ⟨h, h'⟩ | ⟨h, h'⟩ | h
        case inr.inl =>
          have E := Lib.hid (S2.out (by simp only [nameByte, decide_eq_true_eq]; omega))
          have hd : ((s[k].toNat : Int) == 45) = true := by rw [beq_iff_eq]; omega
          go_wp2_with fail
          go_round
          case rel => exact ⟨k + 1, by omega, by go_num, E.out⟩
          case measure => simp [intOf]; omega
        case inr.inr.inr.inl | inr.inr.inr.inr.inr.inl =>
          have E := Lib.hid (S2.out (by simp only [nameByte, decide_eq_true_eq]; omega))
          go_wp2_with fail
          go_round
          case rel => exact ⟨k + 1, by omega, by go_num, E.out⟩
          case measure => simp [intOf]; omega
        case inr.inr.inr.inr.inr.inr =>
          have E := Lib.hid (S1.out (by simp only [nameByte, decide_eq_false_iff_not]; omega))
          have hd : ((s[k].toNat : Int) == 45) = false := by rw [beq_eq_false_iff_ne]; omega
          have d1 : decide ((s[k].toNat : Int) ≤ 122) = false := by rw [decide_eq_false_iff_not]; omega
          have d2 : decide ((s[k].toNat : Int) ≤ 57) = false := by rw [decide_eq_false_iff_not]; omega
          go_wp2_with fail
          go_ret
          exact ⟨ret_bool E.out.symm, rfl⟩
        case inr.inr.inr.inr.inl =>
          have E := Lib.hid (S1.out (by simp only [nameByte, decide_eq_false_iff_not]; omega))
          have hd : ((s[k].toNat : Int) == 45) = false := by rw [beq_eq_false_iff_ne]; omega
          have d2 : decide ((s[k].toNat : Int) ≤ 57) = false := by rw [decide_eq_false_iff_not]; omega
          go_wp2_with fail
          go_ret
          exact ⟨ret_bool E.out.symm, rfl⟩
        all_goals
          have E := Lib.hid (S1.out (by simp only [nameByte, decide_eq_false_iff_not]; omega))
          have hd : ((s[k].toNat : Int) == 45) = false := by rw [beq_eq_false_iff_ne]; omega
          go_wp2_with fail
          go_ret
          exact ⟨ret_bool E.out.symm, rfl⟩
      · have E := Lib.hid (hi.done (by omega))
        clear hi
        go_wp2_with fail
        go_ret
        exact ⟨ret_bool E.out.symm, rfl⟩

set_option maxHeartbeats 1000000 in
theorem NameOk_any (s : ByteArray) (w : World) (hs : s.size ≤ maxLen) :
    Calls Tryz.prog 177 #[.string s] w fun e w' => e = .returned (.bool (nameOk s)) ∧ w = w' := by
  unfold maxLen at hs
  obtain ⟨fin, hfin⟩ : ∃ fin, fin = s.data.toList.all nameByte := ⟨_, rfl⟩
  have Hi : AllInv nameByte s fin 0 := by rw [hfin]; simp [AllInv]
  have Hf : Hid (nameOk s = (inR s.size 1 20 && fin)) := by rw [hfin]; exact Lib.hid rfl
  clear hfin
  go_enter Tryz.func177, Tryz.ntmps177
  go_wp2_with fail
  go_loop [3] (fun i => ∃ k : Nat, k ≤ s.size ∧ i = .int .i64 k ∧ AllInv nameByte s fin k) (fun i => s.size - (intOf i).toNat)
  case atStart => exact ⟨0, Nat.zero_le _, rfl, Hi⟩
  case round =>
    obtain ⟨k, hk, rfl, hi⟩ := hrel
    clear Hi
    by_cases hlt : k < s.size
    · obtain ⟨s1, s2⟩ := hi.step hlt
      clear hi
      have S1 := Lib.hid s1; have S2 := Lib.hid s2; clear s1 s2
      have h7 : (s[k].toNat : Int) < 45 ∨ (45 ≤ (s[k].toNat : Int) ∧ (s[k].toNat : Int) ≤ 45) ∨ (46 ≤ (s[k].toNat : Int) ∧ (s[k].toNat : Int) ≤ 47) ∨ (48 ≤ (s[k].toNat : Int) ∧ (s[k].toNat : Int) ≤ 57) ∨ (58 ≤ (s[k].toNat : Int) ∧ (s[k].toNat : Int) ≤ 96) ∨ (97 ≤ (s[k].toNat : Int) ∧ (s[k].toNat : Int) ≤ 122) ∨ 122 < (s[k].toNat : Int) := by omega
      rcases h7 with h | ⟨h, h'⟩ | ⟨h, h'⟩ | ⟨h, h'⟩ | ⟨h, h'⟩ | ⟨h, h'⟩ | h
      case inr.inl =>
        have E := Lib.hid (S2.out (by simp only [nameByte, decide_eq_true_eq]; omega))
        have hd : ((s[k].toNat : Int) == 45) = true := by rw [beq_iff_eq]; omega
        go_wp2_with fail
        go_round
        case rel => exact ⟨k + 1, by omega, by go_num, E.out⟩
        case measure => simp [intOf]; omega
      case inr.inr.inr.inl | inr.inr.inr.inr.inr.inl =>
        have E := Lib.hid (S2.out (by simp only [nameByte, decide_eq_true_eq]; omega))
        go_wp2_with fail
        go_round
        case rel => exact ⟨k + 1, by omega, by go_num, E.out⟩
        case measure => simp [intOf]; omega
      case inr.inr.inr.inr.inr.inr =>
        have E := Lib.hid (S1.out (by simp only [nameByte, decide_eq_false_iff_not]; omega))
        have hd : ((s[k].toNat : Int) == 45) = false := by rw [beq_eq_false_iff_ne]; omega
        have d1 : decide ((s[k].toNat : Int) ≤ 122) = false := by rw [decide_eq_false_iff_not]; omega
        have d2 : decide ((s[k].toNat : Int) ≤ 57) = false := by rw [decide_eq_false_iff_not]; omega
        go_wp2_with fail
        go_ret
        exact ⟨ret_bool (by rw [Hf.out, E.out, Bool.and_false]), rfl⟩
      case inr.inr.inr.inr.inl =>
        have E := Lib.hid (S1.out (by simp only [nameByte, decide_eq_false_iff_not]; omega))
        have hd : ((s[k].toNat : Int) == 45) = false := by rw [beq_eq_false_iff_ne]; omega
        have d2 : decide ((s[k].toNat : Int) ≤ 57) = false := by rw [decide_eq_false_iff_not]; omega
        go_wp2_with fail
        go_ret
        exact ⟨ret_bool (by rw [Hf.out, E.out, Bool.and_false]), rfl⟩
      all_goals
        have E := Lib.hid (S1.out (by simp only [nameByte, decide_eq_false_iff_not]; omega))
        have hd : ((s[k].toNat : Int) == 45) = false := by rw [beq_eq_false_iff_ne]; omega
        go_wp2_with fail
        go_ret
        exact ⟨ret_bool (by rw [Hf.out, E.out, Bool.and_false]), rfl⟩
    · have E := Lib.hid (hi.done (by omega))
      clear hi
      go_wp2_with fail
      refine (inRange_any _ _ _ _).mono ?_
      rintro e w1 ⟨rfl, rfl⟩
      go_wp2_with fail
      go_ret
      exact ⟨ret_bool (by rw [Hf.out, E.out, Bool.and_true]), rfl⟩
end Go.Proofs.YtkcjhfidgnbdiaaGreat
namespace Go.Proofs.YtkcjhfidgnbdiaaGreat
open Go.ChangeShapes Go.WideShapes Go.ChangeAt Go.RowKit Go.Deep
set_option linter.unusedSimpArgs false
set_option linter.unusedVariables false

/-- Cells that read as data of a type. -/
def Typed (P : Program) (w : World) : Nat → TypeId → List Value → Prop
  | 0, _, _ => False
  | n + 1, t, cs => match P.underlying t with
    | some .bool => ∃ b, cs = [.bool b]
    | some (.int k) => ∃ m, cs = [.int k m] ∧ (Lit.int k m).wf = true
    | some .string => ∃ s : ByteArray, cs = [.string s] ∧ s.size ≤ maxLen
    | some (.slice e) => ∃ A l c, cs = [.slice A l c] ∧ l ≤ c ∧ c ≤ maxLen ∧ (0 < l → ∃ a : Addr, A = some a ∧ (0 < P.cellsOf e → a.block < w.heap.size) ∧
        ∀ i, i < l → ∃ es : List Value, es.length = P.cellsOf e ∧ (∀ j u, es[j]? = some u → w.cell? (a.add (i * P.cellsOf e + j)) = some u) ∧ Typed P w n e es)
    | some (.struct fs) => cs.length = P.cellsOf t ∧ ∀ f ∈ fs.toList, Typed P w n f.type ((cs.drop f.offset).take (P.cellsOf f.type))
    | _ => True

section
variable {H : Type} {enc : TypeId × Value → H} {P : Program} {w : World} {base : Nat} {spare : Nat → Bool} {held : Bool}

theorem cell_lt {w : World} {a : Addr} {v : Value} (h : w.cell? a = some v) : a.block < w.heap.size := by
  rcases Nat.lt_or_ge a.block w.heap.size with hlt | hge
  · exact hlt
  · simp [World.cell?, Array.getElem?_eq_none hge] at h

theorem block_of_add (a : Addr) (n : Nat) : (a.add n).block = a.block := by unfold Addr.add; split <;> rfl

theorem typed_of_trod : ∀ (n : Nat) (t : TypeId) (cs : List Value) (x : DataW H × List MemPlace), DataW.trod enc P w base spare held n t cs = some x → Typed P w n t cs
  | 0, t, cs, x, h => by simp [DataW.trod] at h
  | n + 1, t, cs, x, h => by
    unfold Typed
    split
    · rename_i hu; obtain ⟨b, h1, _⟩ := DataW.trod_bool hu h; exact ⟨b, h1⟩
    · rename_i k hu; obtain ⟨m, h1, _, h2⟩ := DataW.trod_int hu h; exact ⟨m, h1, h2⟩
    · rename_i hu; obtain ⟨s, h1, _, h2⟩ := DataW.trod_string hu h; exact ⟨s, h1, h2⟩
    · rename_i e hu
      rcases DataW.trod_slice hu h with ⟨h1, _⟩ | ⟨a, len, cap, elems, rest, n', hn, h1, _, hb, hl, hm, hlen, hel, _, _⟩
      · exact ⟨none, 0, 0, h1, Nat.le_refl _, Nat.zero_le _, fun h => absurd h (by omega)⟩
      · obtain rfl : n = n' := by omega
        have hes : ∀ i, i < len → ∃ es : List Value, es.length = P.cellsOf e ∧ (∀ j u, es[j]? = some u → w.cell? (a.add (i * P.cellsOf e + j)) = some u) ∧ Typed P w n e es := by
          intro i hi
          have h2 := hel i hi
          rw [List.getElem?_eq_getElem (by omega)] at h2
          obtain ⟨es, h3, h4⟩ := Option.bind_eq_some_iff.1 h2
          obtain ⟨_, h5, h6⟩ := World.cells?_some h3
          refine ⟨es, h5, fun j u hu => ?_, typed_of_trod n _ _ _ h4⟩
          have hj : j < es.length := (List.getElem?_eq_some_iff.1 hu).1
          rw [← Go.Deep.add_add, h6 j (by omega), hu]
        refine ⟨some a, len, cap, h1, hl, hm, fun h0 => ⟨a, rfl, fun hp => ?_, hes⟩⟩
        obtain ⟨es, h5, h6, _⟩ := hes 0 h0
        have := cell_lt (h6 0 _ (List.getElem?_eq_getElem (by omega)))
        rwa [block_of_add] at this
    · rename_i fs hu
      obtain ⟨xs, n', hn, _, hl, hlen, hf⟩ := DataW.trod_struct hu h
      obtain rfl : n = n' := by omega
      refine ⟨hl, fun f hmem => ?_⟩
      obtain ⟨i, hi⟩ := List.getElem?_of_mem hmem
      have hi' : fs[i]? = some f := by simpa using hi
      have hlt : i < fs.size := (Array.getElem?_eq_some_iff.1 hi').1
      have := hf i f hi'
      rw [List.getElem?_eq_getElem (by omega)] at this
      exact typed_of_trod n _ _ _ this
    · trivial
end

theorem Given.size {P : Program} {W : World} {ts : List TypeId} {args : Array Value} (h : Given P W ts args) : args.size = ts.length := by
  obtain ⟨H, enc, base, ds, ps, _, h⟩ := h
  have : ∀ (ts : List TypeId) (vs : List Value) (ds : List (DataW H)) (ps : List MemPlace), DataW.TrodAll enc P W 0 (fun _ => true) true ts vs ds ps → vs.length = ts.length := by
    intro ts
    induction ts with
    | nil => intro vs ds ps h; obtain ⟨rfl, rfl, rfl⟩ := trodAll_nil h; rfl
    | cons t ts ih => intro vs ds ps h; obtain ⟨v, vs', d, ds', p, q, rfl, rfl, rfl, h0, h1⟩ := trodAll_cons h; simp [ih _ _ _ h1]
  simpa using this _ _ _ _ h

theorem Given.arg {P : Program} {W : World} {ts : List TypeId} {args : Array Value} (h : Given P W ts args) (j : Nat) (t : TypeId) (v : Value) (ht : ts[j]? = some t) (hv : args[j]? = some v) :
    ∃ base n, Value.okWide P W .any base t v ∧ Typed P W n t v.cells.toList := by
  obtain ⟨H, enc, base, ds, ps, h1, h2⟩ := h
  have : ∀ (ts : List TypeId) (vs : List Value) (ds : List (DataW H)) (ps : List MemPlace), DataW.TrodAll enc P W 0 (fun _ => true) true ts vs ds ps → ∀ (j : Nat) (t : TypeId) (v : Value), ts[j]? = some t → vs[j]? = some v → ∃ n, Typed P W n t v.cells.toList := by
    intro ts
    induction ts with
    | nil => intro vs ds ps h j t v ht; simp at ht
    | cons t ts ih =>
      intro vs ds ps h j t' v' ht hv
      obtain ⟨v, vs', d, ds', p, q, rfl, rfl, rfl, ⟨n, h0⟩, h1⟩ := trodAll_cons h
      cases j with
      | zero => obtain rfl : t = t' := by simpa using ht
                obtain rfl : v = v' := by simpa using hv
                exact ⟨n, typed_of_trod n _ _ _ h0⟩
      | succ j => exact ih _ _ _ h1 j t' v' (by simpa using ht) (by simpa using hv)
  obtain ⟨n, hn⟩ := this _ _ _ _ h2 j t v ht (by simpa using hv)
  exact ⟨base, n, h1 j t v ht hv, hn⟩
end Go.Proofs.YtkcjhfidgnbdiaaGreat

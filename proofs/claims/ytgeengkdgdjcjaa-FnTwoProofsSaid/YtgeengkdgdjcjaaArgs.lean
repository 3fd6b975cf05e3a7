/-
  Args: No condition.
-/
import Derived.Test.YtgeengkdgdjcjaaSmall
namespace Go.Proofs.Ytgeengkdgdjcjaa
open Go.ChangeShapes Go.WideShapes Go.ChangeAt Go.RowKit Go.Deep
set_option linter.unusedSimpArgs false
set_option linter.unusedVariables false
def Typed (P : Program) (w : World) : Nat → TypeId → List Value → Prop
 | 0, _, _ => False
 | n + 1, t, cs => match P.underlying t with
   | some .bool => ∃ b, cs = [.bool b]
   | some (.int k) => ∃ m, cs = [.int k m] ∧ (Lit.int k m).wf = true
   | some .string => ∃ s : ByteArray, cs = [.string s] ∧ s.size ≤ maxLen
   | some (.slice e) => ∃ A l c, cs = [.slice A l c] ∧ l ≤ c ∧ c ≤ maxLen ∧ (0 < l → ∃ a : Addr, A = some a ∧ (0 < P.cellsOf e → a.block < w.heap.size) ∧
    ∀ i, i < l → ∃ es : List Value, es.length = P.cellsOf e ∧ (∀ j u, es[j]? = some u → w.cell? (a.add (i * P.cellsOf e + j)) = some u) ∧ Typed P w n e es)
   | some (.struct fs) => cs.length = P.cellsOf t ∧ ∀ f ∈ fs.toList, Typed P w n f.type ((cs.drop f.offset).take (P.cellsOf f.type))
   | _ => True
section
variable {H : Type} {enc : TypeId × Value → H} {P : Program} {w : World} {base : Nat} {spare : Nat → Bool} {held : Bool}
theorem cell_lt {w : World} {a : Addr} {v : Value} (h : w.cell? a = some v) : a.block < w.heap.size := by
 rcases Nat.lt_or_ge a.block w.heap.size with hlt | hge
 · exact hlt
 · simp [World.cell?, Array.getElem?_eq_none hge] at h
theorem block_of_add (a : Addr) (n : Nat) : (a.add n).block = a.block := by unfold Addr.add; split <;> rfl
theorem typed_of_trod : ∀ (n : Nat) (t : TypeId) (cs : List Value) (x : DataW H × List MemPlace), DataW.trod enc P w base spare held n t cs = some x → Typed P w n t cs
 | 0, t, cs, x, h => by simp [DataW.trod] at h
 | n + 1, t, cs, x, h => by
   unfold Typed
   split
   · rename_i hu; obtain ⟨b, h1, _⟩ := DataW.trod_bool hu h; exact ⟨b, h1⟩
   · rename_i k hu; obtain ⟨m, h1, _, h2⟩ := DataW.trod_int hu h; exact ⟨m, h1, h2⟩
   · rename_i hu; obtain ⟨s, h1, _, h2⟩ := DataW.trod_string hu h; exact ⟨s, h1, h2⟩
   · rename_i e hu
     rcases DataW.trod_slice hu h with ⟨h1, _⟩ | ⟨a, len, cap, elems, rest, n', hn, h1, _, hb, hl, hm, hlen, hel, _, _⟩
     · exact ⟨none, 0, 0, h1, Nat.le_refl _, Nat.zero_le _, fun h => absurd h (by omega)⟩
     · obtain rfl : n = n' := by omega
       have hes : ∀ i, i < len → ∃ es : List Value, es.length = P.cellsOf e ∧ (∀ j u, es[j]? = some u → w.cell? (a.add (i * P.cellsOf e + j)) = some u) ∧ Typed P w n e es := by
        intro i hi
        have h2 := hel i hi
        rw [List.getElem?_eq_getElem (by omega)] at h2
        obtain ⟨es, h3, h4⟩ := Option.bind_eq_some_iff.1 h2
        obtain ⟨_, h5, h6⟩ := World.cells?_some h3
        refine ⟨es, h5, fun j u hu => ?_, typed_of_trod n _ _ _ h4⟩
        have hj : j < es.length := (List.getElem?_eq_some_iff.1 hu).1
        rw [← Go.Deep.add_add, h6 j (by omega), hu]
       refine ⟨some a, len, cap, h1, hl, hm, fun h0 => ⟨a, rfl, fun hp => ?_, hes⟩⟩
       obtain ⟨es, h5, h6, _⟩ := hes 0 h0
       have := cell_lt (h6 0 _ (List.getElem?_eq_getElem (by omega)))
       rwa [block_of_add] at this
   · rename_i fs hu
     obtain ⟨xs, n', hn, _, hl, hlen, hf⟩ := DataW.trod_struct hu h
     obtain rfl : n = n' := by omega
     refine ⟨hl, fun f hmem => ?_⟩
     obtain ⟨i, hi⟩ := List.getElem?_of_mem hmem
     have hi' : fs[i]? = some f := by simpa using hi
     have hlt : i < fs.size := (Array.getElem?_eq_some_iff.1 hi').1
     have := hf i f hi'
     rw [List.getElem?_eq_getElem (by omega)] at this
     exact typed_of_trod n _ _ _ this
   · trivial
end
theorem Given.size {P : Program} {W : World} {ts : List TypeId} {args : Array Value} (h : Given P W ts args) : args.size = ts.length := by
 obtain ⟨H, enc, base, ds, ps, _, h⟩ := h
 have : ∀ (ts : List TypeId) (vs : List Value) (ds : List (DataW H)) (ps : List MemPlace), DataW.TrodAll enc P W 0 (fun _ => true) true ts vs ds ps → vs.length = ts.length := by
  intro ts
  induction ts with
  | nil => intro vs ds ps h; obtain ⟨rfl, rfl, rfl⟩ := trodAll_nil h; rfl
  | cons t ts ih => intro vs ds ps h; obtain ⟨v, vs', d, ds', p, q, rfl, rfl, rfl, h0, h1⟩ := trodAll_cons h; simp [ih _ _ _ h1]
 simpa using this _ _ _ _ h
theorem Given.arg {P : Program} {W : World} {ts : List TypeId} {args : Array Value} (h : Given P W ts args) (j : Nat) (t : TypeId) (v : Value) (ht : ts[j]? = some t) (hv : args[j]? = some v) :
 ∃ base n, Value.okWide P W .any base t v ∧ Typed P W n t v.cells.toList := by
 obtain ⟨H, enc, base, ds, ps, h1, h2⟩ := h
 have : ∀ (ts : List TypeId) (vs : List Value) (ds : List (DataW H)) (ps : List MemPlace), DataW.TrodAll enc P W 0 (fun _ => true) true ts vs ds ps → ∀ (j : Nat) (t : TypeId) (v : Value), ts[j]? = some t → vs[j]? = some v → ∃ n, Typed P W n t v.cells.toList := by
  intro ts
  induction ts with
  | nil => intro vs ds ps h j t v ht; simp at ht
  | cons t ts ih =>
    intro vs ds ps h j t' v' ht hv
    obtain ⟨v, vs', d, ds', p, q, rfl, rfl, rfl, ⟨n, h0⟩, h1⟩ := trodAll_cons h
    cases j with
    | zero => obtain rfl : t = t' := by simpa using ht
              obtain rfl : v = v' := by simpa using hv
              exact ⟨n, typed_of_trod n _ _ _ h0⟩
    | succ j => exact ih _ _ _ h1 j t' v' (by simpa using ht) (by simpa using hv)
 obtain ⟨n, hn⟩ := this _ _ _ _ h2 j t v ht (by simpa using hv)
 exact ⟨base, n, h1 j t v ht hv, hn⟩
end Go.Proofs.Ytgeengkdgdjcjaa

/-
  Bunch: No condition.
-/
import Derived.Test.YtgeengkdgdjcjaaSmall
import Derived.OrdersHeld
namespace Go.Proofs.Ytgeengkdgdjcjaa
set_option linter.unusedSimpArgs false
open Go.RowKit
set_option linter.unusedVariables false
section
variable {P : Program} {ops : Array Oper} {Q : Exit → Act → World → Prop} {md : Region.Mode}
def fillA (vals : Nat → Value) : List (Nat × Option Tmp) → Act → Act
 | [], a => a
 | (i, d) :: T, a => fillA vals T (a.put d (vals i))
/-! ### The bunch -/
structure StepG (p : Prop) : Prop where
 out : p
section
variable {T T' : List (Nat × Option Tmp)} {a0 : Act} {Pv : Nat → Value → World → Prop} {S : World → Prop} {R : World → World → Prop}
end
theorem takeH {S : World → Prop} {i : Nat} {oi : Oper} {v : Value} {fuel : Nat} {listed : Array Bool} {a : Act} {w : World} (d : Option Tmp) (hi : ops[i]? = some oi) (hd : oi.dst = d)
 (hs : Region.noSelect ops = true) (hf : Region.free md ops listed i = true) (hr : (Region.ready md ops listed).contains i = true)
 (hQ : ∀ c (a b : Act) w, a.defers = b.defers → Q (.panic c) a w → Q (.panic c) b w) (hy : YieldsIf P ops S oi v a) (hS : S w)
 (h : wpAnyH P md ops Q S fuel (listed.setIfInBounds i true) (a.put d v) w) : wpAnyH P md ops Q S (fuel + 1) listed a w := by
 subst hd
 exact wpAnyH_take hi hs hf hr (fun c a w => hQ c _ _ w (by cases oi.dst <;> rfl)) hy hS h
theorem takeQ {S : World → Prop} {oi : Oper} {fuel : Nat} {listed : Array Bool} {a : Act} {w : World} (i : Nat) (v : Value) (d : Option Tmp) (hi : ops[i]? = some oi) (hd : oi.dst = d)
 (hk : (Region.noSelect ops && Region.free md ops listed i && (Region.ready md ops listed).contains i) = true) (hy : YieldsIf P ops S oi v a) (hS : S w)
 (h : wpAnyH P md ops Q S fuel (listed.setIfInBounds i true) (a.put d v) w)
 (hQ : ∀ c (a b : Act) w, a.defers = b.defers → Q (.panic c) a w → Q (.panic c) b w := by intro _ a b _ e h; cases a; cases b; cases e; exact h) : wpAnyH P md ops Q S (fuel + 1) listed a w := by
 rw [Bool.and_eq_true, Bool.and_eq_true] at hk
 exact takeH d hi hd hk.1.1 hk.1.2 hk.2 hQ hy hS h
theorem pz1 {α : Type} {l : List α} {i : Nat} {a : α} : l.toArray.setIfInBounds i a = (l.set i a).toArray := List.setIfInBounds_toArray ..
theorem pz2 {α : Type} {x : α} {xs : List α} {a : α} : (x :: xs).set 0 a = a :: xs := List.set_cons_zero ..
theorem pz3 {α : Type} {x : α} {xs : List α} {i : Nat} {a : α} : (x :: xs).set (i + 1) a = x :: xs.set i a := List.set_cons_succ ..
theorem zA : (∀ (a : Act) (d : Tmp) (v : Value), a.put (some d) v = { tmps := a.tmps.setIfInBounds d v, defers := a.defers }) ∧ (∀ (a : Act) (v : Value), a.put none v = a) ∧ (∀ {α : Type} (l : List α) (i : Nat) (a : α), l.toArray.setIfInBounds i a = (l.set i a).toArray) ∧ (∀ {α : Type} (x : α) (xs : List α) (a : α), (x :: xs).set 0 a = a :: xs) ∧ (∀ {α : Type} (x : α) (xs : List α) (i : Nat) (a : α), (x :: xs).set (i + 1) a = x :: xs.set i a) := ⟨fun _ _ _ => rfl, fun _ _ => rfl, fun _ _ _ => pz1, fun _ _ _ => pz2, fun _ _ _ _ => pz3⟩
theorem zB : (∀ (f : Nat → Value) (a : Act), fillA f [] a = a) ∧ (∀ (f : Nat → Value) (i : Nat) (d : Option Tmp) (T : List (Nat × Option Tmp)) (a : Act), fillA f ((i, d) :: T) a = fillA f T (a.put d (f i))) ∧ (∀ (a : Act) (d : Tmp) (v : Value), a.put (some d) v = { tmps := a.tmps.setIfInBounds d v, defers := a.defers }) ∧ (∀ (a : Act) (v : Value), a.put none v = a) ∧ (∀ {α : Type} (l : List α) (i : Nat) (a : α), l.toArray.setIfInBounds i a = (l.set i a).toArray) ∧ (∀ {α : Type} (x : α) (xs : List α) (a : α), (x :: xs).set 0 a = a :: xs) ∧ (∀ {α : Type} (x : α) (xs : List α) (i : Nat) (a : α), (x :: xs).set (i + 1) a = x :: xs.set i a) := ⟨fun _ _ => rfl, fun _ _ _ _ _ => rfl, zA⟩
theorem oneH {S : World → Prop} (i : Nat) {oi : Oper} {fuel : Nat} {listed : Array Bool} {a : Act} {w : World} (d : Option Tmp) (hr : Region.ready md ops listed = [i]) (hi : ops[i]? = some oi) (hg : oi.guard = none) (hd : oi.dst = d)
 (h : ∀ K' : Act → World → Prop, Shut (∀ a' w', (∃ v, a' = a.put d v) → S w' → (S w' → wpAnyH P md ops Q S fuel (listed.setIfInBounds i true) a' w') → K' a' w') → StepG (if Region.wanted oi (yielded ops a.tmps) = true then Oper.wp P oi a w K' Q else K' (a.put oi.dst undef) w)) : wpAnyH P md ops Q S (fuel + 1) listed a w := by
 refine wpAnyH_all hr (by simp) fun j hj => ?_
 obtain rfl : j = i := by simpa using hj
 unfold wpOp
 simp only [hi]
 have hw : Region.wanted oi (yielded ops a.tmps) = true := by simp [Region.wanted, hg]
 rw [if_pos hw]
 have h2 := h (fun a' w' => S w' ∧ wpAnyH P md ops Q S fuel (listed.setIfInBounds j true) a' w') fun a' w' _ hS hW => ⟨hS, hW hS⟩
 replace h2 := h2.out
 rw [if_pos hw] at h2
 exact .inl h2
end
end Go.Proofs.Ytgeengkdgdjcjaa

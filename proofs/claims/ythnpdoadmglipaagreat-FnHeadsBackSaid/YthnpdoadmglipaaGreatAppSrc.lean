/-
  NString; Path; Merkle; Forks; Gapless; GivenTo; AppSrc: No condition.
-/
import Derived.Test.YthnpdoadmglipaaGreatNest
import Derived.Test.YthnpdoadmglipaaGreatWords
import Derived.StillTailTactics
import Derived.Test.YthnpdoadmglipaaGreatHeadOps
import Derived.Test.YthnpdoadmglipaaGreatReader
import Derived.Laws.AppendOwnNone
import Derived.Tactics
namespace Go.Proofs.YthnpdoadmglipaaGreat
set_option linter.unusedSimpArgs false
open Go.RowKit
set_option linter.unusedVariables false

def half (n : Nat) : Nat := 2 ^ Nat.log2 (n - 1)
theorem half_pos (n : Nat) : 0 < half n := Nat.two_pow_pos _
theorem half_lt {n : Nat} (h : 2 ≤ n) : half n < n := by
 have := Nat.log2_self_le (n := n - 1) (by omega)
 unfold half; omega
theorem half_eq {n k : Nat} (h1 : 2 ^ k < n) (h2 : n ≤ 2 ^ (k + 1)) : half n = 2 ^ k := by
 have h0 : 0 < 2 ^ k := Nat.two_pow_pos _
 have : Nat.log2 (n - 1) = k := (Nat.log2_eq_iff (by omega)).2 ⟨by omega, by omega⟩
 rw [half, this]
def hashes (w : Int) (l : List ByteArray) : Bool := l.all fun s => (s.size : Int) == w
def nodeT (w : Int) (t : ByteArray) : ByteArray := digest w 1 t
end Go.Proofs.YthnpdoadmglipaaGreat
namespace Go.Proofs.YthnpdoadmglipaaGreat
set_option linter.unusedSimpArgs false
set_option linter.unusedVariables false
section
variable {α : Type} (nd : α → α → α) (e : α)
def mrF : Nat → List α → α
 | 0, _ => e
 | f + 1, l => match l with
   | [] => e
   | [x] => x
   | x :: y :: r => nd (mrF f ((x :: y :: r).take (half (x :: y :: r).length))) (mrF f ((x :: y :: r).drop (half (x :: y :: r).length)))
def mroot (l : List α) : α := mrF nd e l.length l
theorem mrF_fuel : ∀ (f g : Nat) (l : List α), l.length ≤ f → l.length ≤ g → mrF nd e f l = mrF nd e g l
 | 0, 0, _, _, _ => rfl
 | 0, g + 1, l, h, _ => by
   obtain rfl : l = [] := List.eq_nil_of_length_eq_zero (by omega)
   rfl
 | f + 1, 0, l, _, h => by
   obtain rfl : l = [] := List.eq_nil_of_length_eq_zero (by omega)
   rfl
 | f + 1, g + 1, [], _, _ => rfl
 | f + 1, g + 1, [x], _, _ => rfl
 | f + 1, g + 1, x :: y :: r, hf, hg => by
   have l1 := half_lt (n := (x :: y :: r).length) (by simp)
   have l2 := half_pos (x :: y :: r).length
   simp only [mrF]
   rw [mrF_fuel f g _ (by rw [List.length_take]; omega) (by rw [List.length_take]; omega), mrF_fuel f g _ (by rw [List.length_drop]; omega) (by rw [List.length_drop]; omega)]
theorem mroot_one (x : α) : mroot nd e [x] = x := rfl
theorem mroot_more {l : List α} (h : 2 ≤ l.length) : mroot nd e l = nd (mroot nd e (l.take (half l.length))) (mroot nd e (l.drop (half l.length))) := by
 have l1 := half_lt h
 have l2 := half_pos l.length
 match l, h, l1, l2 with
 | x :: y :: r, _, l1, l2 =>
   unfold mroot
   obtain ⟨f, hf⟩ : ∃ f, (x :: y :: r).length = f + 1 := ⟨r.length + 1, by simp⟩
   rw [hf, mrF, ← hf]
   rw [mrF_fuel nd e f ((x :: y :: r).take (half (x :: y :: r).length)).length _ (by rw [List.length_take]; omega) (Nat.le_refl _), mrF_fuel nd e f ((x :: y :: r).drop (half (x :: y :: r).length)).length _ (by rw [List.length_drop]; omega) (Nat.le_refl _)]
theorem mroot_join {y z : List α} {k : Nat} (hy : y.length = 2 ^ k) (h0 : 0 < z.length) (hz : z.length ≤ 2 ^ k) : mroot nd e (y ++ z) = nd (mroot nd e y) (mroot nd e z) := by
 have h1 : 0 < 2 ^ k := Nat.two_pow_pos _
 have hl : (y ++ z).length = 2 ^ k + z.length := by rw [List.length_append, hy]
 have hh : half (y ++ z).length = 2 ^ k := half_eq (by omega) (by rw [hl, Nat.pow_succ]; omega)
 rw [mroot_more nd e (by omega), hh, ← hy, List.take_left, List.drop_left]
def carry : Nat → Nat → List α → α → List α
 | 0, _, s, v => v :: s
 | _ + 1, _, [], v => [v]
 | f + 1, n, p :: r, v => if n % 2 = 1 then carry f (n / 2) r (nd p v) else v :: p :: r
theorem carry_even : ∀ (f n : Nat) (s : List α) (v : α), n % 2 = 0 → carry nd f n s v = v :: s
 | 0, _, _, _, _ => rfl
 | f + 1, n, [], v, _ => rfl
 | f + 1, n, p :: r, v, h => by rw [carry, if_neg (by omega)]
theorem carry_fuel : ∀ (f g n : Nat) (s : List α) (v : α), n ≤ f → n ≤ g → carry nd f n s v = carry nd g n s v
 | 0, g, n, s, v, h, _ => by rw [carry_even nd 0 n s v (by omega), carry_even nd g n s v (by omega)]
 | f + 1, 0, n, s, v, _, h => by rw [carry_even nd 0 n s v (by omega), carry_even nd (f + 1) n s v (by omega)]
 | f + 1, g + 1, n, [], v, _, _ => rfl
 | f + 1, g + 1, n, p :: r, v, hf, hg => by
   rw [carry, carry]
   by_cases h : n % 2 = 1
   · rw [if_pos h, if_pos h]
     exact carry_fuel f g (n / 2) r (nd p v) (by omega) (by omega)
   · rw [if_neg h, if_neg h]
def carryN (n : Nat) (s : List α) (v : α) : List α := carry nd n n s v
theorem carryN_even {n : Nat} {s : List α} {v : α} (h : n % 2 = 0) : carryN nd n s v = v :: s := by
 exact carry_even nd n n s v h
theorem carryN_odd {n : Nat} {s : List α} {p v : α} (h : n % 2 = 1) : carryN nd n (p :: s) v = carryN nd (n / 2) s (nd p v) := by
 unfold carryN
 cases n with
 | zero => omega
 | succ n =>
   rw [carry, if_pos h]
   exact carry_fuel nd n ((n + 1) / 2) _ s _ (by omega) (Nat.le_refl _)
def peaksOf (l : List α) : List α := (l.foldl (fun (a : Nat × List α) x => (a.1 + 1, carryN nd a.1 a.2 x)) (0, [])).2
inductive Stk : Nat → Nat → List α → List α → Prop
 | nil (k : Nat) : Stk 0 k [] []
 | even {n k : Nat} {l s : List α} : Stk (n + 1) (k + 1) l s → Stk (2 * (n + 1)) k l s
 | odd {n k : Nat} {l y s : List α} : Stk n (k + 1) l s → y.length = 2 ^ k → Stk (2 * n + 1) k (l ++ y) (mroot nd e y :: s)
theorem Stk.len {n k : Nat} {l s : List α} (h : Stk nd e n k l s) : l.length = n * 2 ^ k := by
 induction h with
 | nil => simp
 | even _ ih => rw [ih, Nat.pow_succ, ← Nat.mul_assoc, Nat.mul_comm 2, Nat.mul_assoc, Nat.mul_assoc, Nat.mul_comm 2]
 | @odd n k l y s _ hy ih =>
   rw [List.length_append, ih, hy, Nat.pow_succ, Nat.add_mul, Nat.one_mul, Nat.mul_comm 2 n, Nat.mul_assoc, Nat.mul_comm 2]
theorem Stk.step {n k : Nat} {l s : List α} (h : Stk nd e n k l s) : ∀ x : List α, x.length = 2 ^ k → Stk nd e (n + 1) k (l ++ x) (carryN nd n s (mroot nd e x)) := by
 induction h with
 | nil k =>
   intro x hx
   rw [carryN_even nd rfl]
   exact Stk.odd (Stk.nil (k + 1)) hx
 | @even n k l s h _ =>
   intro x hx
   rw [carryN_even nd (by omega)]
   exact Stk.odd h hx
 | @odd n k l y s h hy ih =>
   intro x hx
   have h0 : 0 < 2 ^ k := Nat.two_pow_pos _
   rw [carryN_odd nd (by omega), show (2 * n + 1) / 2 = n by omega, ← mroot_join nd e hy (by omega) (by omega), List.append_assoc, show 2 * n + 1 + 1 = 2 * (n + 1) by omega]
   exact Stk.even (ih (y ++ x) (by rw [List.length_append, hy, hx, Nat.pow_succ]; omega))
theorem Stk.fold {n k : Nat} {l s : List α} (h : Stk nd e n k l s) : ∀ z : List α, 0 < z.length → z.length ≤ 2 ^ k → s.foldl (fun r p => nd p r) (mroot nd e z) = mroot nd e (l ++ z) := by
 induction h with
 | nil k => intro z _ _; simp
 | @even n k l s h ih =>
   intro z h0 hz
   exact ih z h0 (by rw [Nat.pow_succ]; omega)
 | @odd n k l y s h hy ih =>
   intro z h0 hz
   rw [List.foldl_cons, ← mroot_join nd e hy h0 hz, List.append_assoc]
   exact ih (y ++ z) (by rw [List.length_append]; omega) (by rw [List.length_append, hy, Nat.pow_succ]; omega)
def rootS : List α → α
 | [] => e
 | t :: s => s.foldl (fun r p => nd p r) t
theorem Stk.root {n k : Nat} {l s : List α} (h : Stk nd e n k l s) : rootS nd e s = mroot nd e l := by
 induction h with
 | nil => rfl
 | even _ ih => exact ih
 | @odd n k l y s h hy _ => exact h.fold nd e y (by rw [hy]; exact Nat.two_pow_pos _) (by rw [hy, Nat.pow_succ]; omega)
theorem peaks_fold : ∀ (r : List α) (l s : List α), Stk nd e l.length 0 l s → Stk nd e (l.length + r.length) 0 (l ++ r) (r.foldl (fun (a : Nat × List α) x => (a.1 + 1, carryN nd a.1 a.2 x)) (l.length, s)).2
 | [], l, s, h => by simpa using h
 | x :: r, l, s, h => by
   have h1 := h.step nd e [x] rfl
   rw [mroot_one] at h1
   have h2 := peaks_fold r (l ++ [x]) (carryN nd l.length s x) (by rw [List.length_append]; exact h1)
   simp only [List.length_append, List.length_cons, List.length_nil, List.append_assoc, List.singleton_append, List.foldl_cons] at h2 ⊢
   rw [show l.length + (r.length + 1) = l.length + (0 + 1) + r.length by omega]
   exact h2
theorem stk_peaks (l : List α) : Stk nd e l.length 0 l (peaksOf nd l) := by
 have := peaks_fold nd e l [] [] (Stk.nil 0)
 simpa [peaksOf] using this
theorem peaks_root (l : List α) : rootS nd e (peaksOf nd l) = mroot nd e l := (stk_peaks nd e l).root
def growL (n : Nat) (s : List α) (r : List α) : List α := (r.foldl (fun (a : Nat × List α) x => (a.1 + 1, carryN nd a.1 a.2 x)) (n, s)).2
theorem growL_nil (n : Nat) (s : List α) : growL nd n s [] = s := rfl
theorem growL_cons (n : Nat) (s : List α) (x : α) (r : List α) : growL nd n s (x :: r) = growL nd (n + 1) (carryN nd n s x) r := rfl
theorem fold_fst : ∀ (r : List α) (a : Nat × List α), (r.foldl (fun (a : Nat × List α) x => (a.1 + 1, carryN nd a.1 a.2 x)) a).1 = a.1 + r.length
 | [], a => rfl
 | x :: r, a => by rw [List.foldl_cons, fold_fst r]; simp only [List.length_cons]; omega
theorem growL_append (n : Nat) (s r t : List α) : growL nd n s (r ++ t) = growL nd (n + r.length) (growL nd n s r) t := by
 unfold growL
 rw [List.foldl_append, ← fold_fst nd r (n, s)]
theorem peaks_append (l r : List α) : peaksOf nd (l ++ r) = growL nd l.length (peaksOf nd l) r := by
 have := growL_append nd 0 [] l r
 rw [Nat.zero_add] at this
 exact this
end
def pcF : Nat → Nat → Nat
 | 0, _ => 0
 | f + 1, n => n % 2 + pcF f (n / 2)
theorem pcF_fuel : ∀ (f g n : Nat), n ≤ f → n ≤ g → pcF f n = pcF g n
 | 0, 0, _, _, _ => rfl
 | 0, g + 1, n, h, _ => by
   obtain rfl : n = 0 := by omega
   rw [pcF, pcF, ← pcF_fuel 0 g (0 / 2) (by omega) (by omega)]; rfl
 | f + 1, 0, n, _, h => by
   obtain rfl : n = 0 := by omega
   rw [pcF, pcF, pcF_fuel f 0 (0 / 2) (by omega) (by omega)]; rfl
 | f + 1, g + 1, n, hf, hg => by rw [pcF, pcF, pcF_fuel f g (n / 2) (by omega) (by omega)]
def pc (n : Nat) : Nat := pcF n n
theorem pc_step (n : Nat) : pc n = n % 2 + pc (n / 2) := by
 unfold pc
 cases n with
 | zero => rfl
 | succ n => rw [pcF, pcF_fuel n ((n + 1) / 2) _ (by omega) (Nat.le_refl _)]
theorem pc_le (n : Nat) : pc n ≤ n := by
 induction n using Nat.strongRecOn with
 | _ n ih =>
   rcases Nat.eq_zero_or_pos n with h | h
   · subst h; exact Nat.le_refl _
   · rw [pc_step]; have := ih (n / 2) (by omega); omega
theorem pc_next (n : Nat) : pc (n + 1) ≤ pc n + 1 := by
 induction n using Nat.strongRecOn with
 | _ n ih =>
   rw [pc_step (n + 1), pc_step n]
   rcases Nat.mod_two_eq_zero_or_one n with h | h
   · rw [show (n + 1) / 2 = n / 2 by omega]; omega
   · have := ih (n / 2) (by omega)
     rw [show (n + 1) / 2 = n / 2 + 1 by omega]; omega
theorem pc_even {n : Nat} (h : n % 2 = 0) : pc (n + 1) = pc n + 1 := by
 rw [pc_step (n + 1), pc_step n, show (n + 1) / 2 = n / 2 by omega]; omega
theorem pc_odd {n : Nat} (h : n % 2 = 1) : pc (n + 1) = pc (n / 2 + 1) ∧ pc n = pc (n / 2) + 1 := by
 rw [pc_step (n + 1), pc_step n, show (n + 1) / 2 = n / 2 + 1 by omega]; omega
theorem carry_len {α : Type} (nd : α → α → α) : ∀ (n : Nat) (s : List α) (v : α), s.length = pc n → (carryN nd n s v).length = pc (n + 1) := by
 intro n
 induction n using Nat.strongRecOn with
 | _ n ih =>
   intro s v hs
   rcases Nat.mod_two_eq_zero_or_one n with h | h
   · rw [carryN_even nd h, pc_even h, List.length_cons, hs]
   · obtain ⟨h1, h2⟩ := pc_odd h
     match s, hs with
     | [], hs => rw [h2] at hs; simp at hs
     | p :: r, hs =>
       rw [carryN_odd nd h, h1]
       exact ih (n / 2) (by omega) r _ (by rw [h2] at hs; simpa using hs)
theorem growL_len {α : Type} (nd : α → α → α) : ∀ (r : List α) (n : Nat) (s : List α), s.length = pc n → (growL nd n s r).length = pc (n + r.length)
 | [], n, s, h => h
 | x :: r, n, s, h => by
   rw [growL_cons, growL_len nd r _ _ (carry_len nd n s x h), List.length_cons]
   congr 1; omega
theorem peaks_len {α : Type} (nd : α → α → α) (l : List α) : (peaksOf nd l).length = pc l.length := by
 have := growL_len nd l 0 [] rfl
 rw [Nat.zero_add] at this
 exact this
end Go.Proofs.YthnpdoadmglipaaGreat
namespace Go.Proofs.YthnpdoadmglipaaGreat
set_option maxHeartbeats 4000000
set_option maxRecDepth 100000
set_option linter.unusedSimpArgs false
open Go.RowKit
set_option linter.unusedVariables false
def parted (a b : HeadD) : Bool := ((a.size == b.size) && !(a.root.toList == b.root.toList)) || ((a.taken == b.taken) && !(a.takenRoot.toList == b.takenRoot.toList))
theorem nes_of_beq {a b : List UInt8} {p : Bool} (h : (a == b) = p) : (a != b) = !p := by rw [bne, h]
def forkB (n : Int) (a b : HeadD) : Bool := headOk n a && headOk n b && parted a b
theorem parted_any (a b : HeadD) (w : World) : Calls Tryz.prog 31 #[.agg #[.int .i64 a.number, .int .i64 a.size, .string a.root, .int .i64 a.taken, .string a.takenRoot], .agg #[.int .i64 b.number, .int .i64 b.size, .string b.root, .int .i64 b.taken, .string b.takenRoot]] w fun e w' => e = .returned (.bool (parted a b)) ∧ Ext w w' := by
 have E := hU (show parted a b = (((a.size == b.size) && !(a.root.toList == b.root.toList)) || ((a.taken == b.taken) && !(a.takenRoot.toList == b.takenRoot.toList))) from rfl)
 cases c1 : (a.size == b.size) <;> cases c2 : (a.root.toList == b.root.toList) <;> cases c3 : (a.taken == b.taken) <;> cases c4 : (a.takenRoot.toList == b.takenRoot.toList)
 all_goals
  have E2 := hU (show parted a b = _ by rw [E.out, c1, c2, c3, c4])
  have c2' := nes_of_beq c2
  have c4' := nes_of_beq c4
  clear E
  go_enter Tryz.func31, Tryz.ntmps31
  go_wp2_with fail
  go_ret
  exact ⟨ret_bool E2.out.symm, by go_grown⟩
theorem implForkOf_any (n : Int) (a b : HeadD) (w : World) (ha : a.Ok) (hb : b.Ok) : Calls Tryz.prog 13 #[.int .i64 n, .agg #[.int .i64 a.number, .int .i64 a.size, .string a.root, .int .i64 a.taken, .string a.takenRoot], .agg #[.int .i64 b.number, .int .i64 b.size, .string b.root, .int .i64 b.taken, .string b.takenRoot]] w fun e w' => e = .returned (.bool (forkB n a b)) ∧ Ext w w' := by
 obtain ⟨B0, B1, he⟩ := two_blks w #[.int .i64 a.number, .int .i64 a.size, .string a.root, .int .i64 a.taken, .string a.takenRoot] #[.int .i64 b.number, .int .i64 b.size, .string b.root, .int .i64 b.taken, .string b.takenRoot] 33 33
 have K0 := hU B0; have K1 := hU B1; have He := hU he
 obtain ⟨r0, m0⟩ := B0.rules
 obtain ⟨r1, m1⟩ := B1.rules
 clear B0 B1 he
 cases b1 : headOk n a
 · have E := hU (show forkB n a b = false by simp [forkB, b1])
   go_enter Tryz.func13, Tryz.ntmps13
   go_wp2_with fail
   obtain ⟨g, hg⟩ : ∃ g, g = w.heap.size := ⟨_, rfl⟩
   rw [← hg] at K0 K1
   rw [← hg]
   clear hg r0 m0 r1 m1
   have C0 := K0.out; have C1 := K1.out; have he := He.out
   clear K0 K1 He
   refine (implHeadOk_any n a _).mono ?_
   rintro e w1 ⟨rfl, h1⟩
   replace C0 := C0.ext h1; replace C1 := C1.ext h1; replace he := he.next h1; clear h1
   obtain ⟨r0, m0⟩ := C0.rules
   obtain ⟨r1, m1⟩ := C1.rules
   go_wp2_with fail
   go_ret
   exact ⟨ret_bool E.out.symm, he⟩
 cases b2 : headOk n b
 · have E := hU (show forkB n a b = false by simp [forkB, b2])
   go_enter Tryz.func13, Tryz.ntmps13
   go_wp2_with fail
   obtain ⟨g, hg⟩ : ∃ g, g = w.heap.size := ⟨_, rfl⟩
   rw [← hg] at K0 K1
   rw [← hg]
   clear hg r0 m0 r1 m1
   have C0 := K0.out; have C1 := K1.out; have he := He.out
   clear K0 K1 He
   refine (implHeadOk_any n a _).mono ?_
   rintro e w2 ⟨rfl, h1⟩
   replace C0 := C0.ext h1; replace C1 := C1.ext h1; replace he := he.next h1; clear h1
   obtain ⟨r0, m0⟩ := C0.rules
   obtain ⟨r1, m1⟩ := C1.rules
   go_wp2_with fail
   refine (implHeadOk_any n b _).mono ?_
   rintro e w3 ⟨rfl, h1⟩
   replace C0 := C0.ext h1; replace C1 := C1.ext h1; replace he := he.next h1; clear h1
   clear r0 m0 r1 m1
   obtain ⟨r0, m0⟩ := C0.rules
   obtain ⟨r1, m1⟩ := C1.rules
   go_wp2_with fail
   go_ret
   exact ⟨ret_bool E.out.symm, he⟩
 have E := hU (show forkB n a b = parted a b by simp only [forkB, b1, b2, Bool.true_and])
 go_enter Tryz.func13, Tryz.ntmps13
 go_wp2_with fail
 obtain ⟨g, hg⟩ : ∃ g, g = w.heap.size := ⟨_, rfl⟩
 rw [← hg] at K0 K1
 rw [← hg]
 clear hg r0 m0 r1 m1
 have C0 := K0.out; have C1 := K1.out; have he := He.out
 clear K0 K1 He
 refine (implHeadOk_any n a _).mono ?_
 rintro e w4 ⟨rfl, h1⟩
 replace C0 := C0.ext h1; replace C1 := C1.ext h1; replace he := he.next h1; clear h1
 obtain ⟨r0, m0⟩ := C0.rules
 obtain ⟨r1, m1⟩ := C1.rules
 go_wp2_with fail
 refine (implHeadOk_any n b _).mono ?_
 rintro e w5 ⟨rfl, h1⟩
 replace C0 := C0.ext h1; replace C1 := C1.ext h1; replace he := he.next h1; clear h1
 clear r0 m0 r1 m1
 obtain ⟨r0, m0⟩ := C0.rules
 obtain ⟨r1, m1⟩ := C1.rules
 go_wp2_with fail
 refine (parted_any a b _).mono ?_
 rintro e w6 ⟨rfl, h1⟩
 replace C0 := C0.ext h1; replace C1 := C1.ext h1; replace he := he.next h1; clear h1
 clear r0 m0 r1 m1
 obtain ⟨r0, m0⟩ := C0.rules
 obtain ⟨r1, m1⟩ := C1.rules
 go_wp2_with fail
 go_ret
 exact ⟨ret_bool E.out.symm, he⟩
def ofWho (x : GivenD) (who : Int) (topic : ByteArray) : Bool := (x.who == who) && (x.entry.topic.toList == topic.toList)
def gap (who : Int) (topic : ByteArray) : Nat → Int → List GivenD → Bool
 | _, _, [] => true
 | n, last, x :: xs => if ofWho x who topic = true then (if x.entry.index = n ∧ (n = 0 ∨ last < x.leaf) then gap who topic (n + 1) x.leaf xs else false) else gap who topic n last xs
def GapInv (l : List GivenD) (who : Int) (topic : ByteArray) (fin : Bool) (k n : Nat) (last : Int) : Prop := n ≤ k ∧ gap who topic n last (l.drop k) = fin
section
variable {l : List GivenD} {who : Int} {topic : ByteArray} {fin : Bool} {k n : Nat} {last : Int}
theorem GapInv.done (h : GapInv l who topic fin k n last) (hk : l.length ≤ k) : fin = true := by
 obtain ⟨_, h⟩ := h
 rw [List.drop_eq_nil_of_le hk] at h
 simpa [gap] using h.symm
theorem GapInv.other (h : GapInv l who topic fin k n last) (hk : k < l.length) (ho : ofWho l[k] who topic = false) : GapInv l who topic fin (k + 1) n last := by
 obtain ⟨h0, h⟩ := h
 rw [List.drop_eq_getElem_cons hk] at h
 simp only [gap, ho] at h
 exact ⟨by omega, by simpa using h⟩
theorem GapInv.bad (h : GapInv l who topic fin k n last) (hk : k < l.length) (ho : ofWho l[k] who topic = true) (hb : ¬ (l[k].entry.index = n ∧ (n = 0 ∨ last < l[k].leaf))) : fin = false := by
 obtain ⟨h0, h⟩ := h
 rw [List.drop_eq_getElem_cons hk] at h
 simp only [gap, ho, if_true, if_neg hb] at h
 exact h.symm
end
def OwnF {α : Type} (f : α → List Value) (size : Nat) (t : TypeId) (W w : World) (v : Value) (l : List α) : Prop := w.ownsRow W.heap.size t size v l.length (l.flatMap f)
theorem OwnF.ext {α : Type} {f : α → List Value} {size : Nat} {t : TypeId} {W w w' : World} {v : Value} {l : List α} (h : OwnF f size t W w v l) (he : Ext w w') : OwnF f size t W w' v l := ownsRow_ext h he
theorem info_entry : (Tryz.prog.info? 130).map (fun i => (i.zero, i.size, i.bytes)) = some (some (.agg #[.string ⟨#[]⟩, .int .i64 0, .int .i64 0, .string ⟨#[]⟩, .string ⟨#[]⟩]), 5, 64) := by kernel_rfl
def SrcL (w : World) (x : Value) (m size : Nat) (news : List Value) : Prop :=
 ((∃ c, x = .slice none 0 c) ∧ m = 0 ∧ news = []) ∨ ∃ ad c, x = .slice (some ad) m c ∧ news.length = m * size ∧ ∀ j u, news[j]? = some u → w.cell? (ad.add j) = some u
theorem srcL_own {w : World} {B e size n : Nat} {v : Value} {xs : List Value} (h : w.ownsRow B e size v n xs) : SrcL w v n size xs := by
 have h0 := h
 rcases h.2 with ⟨h1, h2⟩ | ⟨g, cap, cur, hv, hg, hh, hnc, hm, hs, ht⟩
 · refine .inl ⟨⟨0, h1⟩, h2, ?_⟩
   have := h.1
   rw [h2, Nat.zero_mul] at this
   exact List.eq_nil_of_length_eq_zero this
 · have hr : Reads w w.heap.size size (some ⟨g, 0, none⟩) n xs := Reads.of_own (c := cap) (by rw [← hv]; exact h0)
   refine .inr ⟨_, _, hv, h.1, fun j u hu => ?_⟩
   rw [add_mk]
   have hn : 0 < n := by
    rcases Nat.eq_zero_or_pos n with h2 | h2
    · have h3 := h.1
      rw [h2, Nat.zero_mul] at h3
      rw [List.eq_nil_of_length_eq_zero h3] at hu; simp at hu
    · exact h2
   obtain ⟨b, off, e, _, hc⟩ := hr.2 hn
   cases e
   exact hc j u hu
theorem srcL_keep {w w' : World} {x : Value} {m size : Nat} {news : List Value} (h : SrcL w x m size news) (hk : ∀ p : Addr, ∀ u, w.cell? p = some u → w'.cell? p = some u) : SrcL w' x m size news := by
 rcases h with h | ⟨ad, c, h1, h2, h3⟩
 · exact .inl h
 · exact .inr ⟨ad, c, h1, h2, fun j u hu => hk _ _ (h3 j u hu)⟩
theorem run_append_none {P : Program} {w : World} (base : Nat) (t ty e : TypeId) (i : TypeInfo) (size c : Nat) (ht : P.underlying t = some (.slice e)) (hi : P.info? e = some i)
 (v : Value) (n : Nat) (xs : List Value) (hown : w.ownsRow base e size v n xs) :
 (Builtin.append_ #[t, t] ty #[v, .slice none 0 c]).run P w = .ok v w := by
 rcases hown.2 with ⟨rfl, rfl⟩ | ⟨g, cap, cur, rfl, _, _, hnc, _⟩
 · simp [Builtin.append_, run_underlying ht, sizeOf, typeInfo, hi, Builtin.lenOf, Builtin.firstCells]
 · simp [Builtin.append_, run_underlying ht, sizeOf, typeInfo, hi, Builtin.lenOf, Builtin.firstCells, hnc, storeCells]
end Go.Proofs.YthnpdoadmglipaaGreat

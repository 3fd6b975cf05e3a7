/-
  NString; Path; Merkle: No condition.
-/
import Derived.Test.YtlgdghpnfclgpaaGreatNest
import Derived.Test.YtlgdghpnfclgpaaGreatTypes
import Derived.StillTailTactics
import Derived.Test.YtlgdghpnfclgpaaGreatHeadOps
namespace Go.Proofs.YtlgdghpnfclgpaaGreat
set_option maxHeartbeats 1000000
set_option maxRecDepth 100000
set_option linter.unusedSimpArgs false
open Go.RowKit
set_option linter.unusedVariables false
def slens (s : ByteArray) : List Nat := [s.size]
theorem string_typed {w : World} {n : Nat} {cs : List Value} (h : Typed Tryz.prog w n 9 cs) : ∃ s, cs = sone s ∧ s.size ≤ maxLen := typed_string Tryz.underlying9 h
theorem szStringS_any (A : Option Addr) (c : Nat) (l : List ByteArray) (left : Int) (w : World) (hr : SlF AnyB sone 1 w A l c) (hok : ∀ s ∈ l, s.size ≤ maxLen) (h0 : 0 ≤ left) (h1 : left ≤ 1048576) :
 Calls Tryz.prog 39 #[.slice A l.length c, .int .i64 left] w fun e w' => e = .returned (.int .i64 (szL (l.length :: l.flatMap slens) left)) ∧ Ext w w' := by
 have hl := hr.len
 unfold maxLen at hl
 have Hok := hU hok; clear hok
 by_cases c0 : left - (l.length : Int) < 0
 · go_enter Tryz.func39, Tryz.ntmps39
   go_wp2
   go_ret
   exact ⟨ret_int (by simp only [szL]; rw [if_pos c0]), by go_grown⟩
 · obtain ⟨fin, hfin⟩ : ∃ fin, fin = szL (l.length :: l.flatMap slens) left := ⟨_, rfl⟩
   have Hi : SzInv slens l fin 0 (left - l.length) := by
    refine ⟨by omega, by omega, ?_⟩
    rw [hfin]; simp only [szL, List.drop_zero]; rw [if_neg c0]
   rw [← hfin]; clear hfin
   go_enter Tryz.func39, Tryz.ntmps39
   go_wp2
   go_loopw [1, 5] (fun r i wr => ∃ (k : Nat) (q : Int), k ≤ l.length ∧ i = .int .i64 k ∧ r = .int .i64 q ∧ 0 ≤ q ∧ q ≤ 1048576 ∧ SzInv slens l fin k q ∧ Ext w wr) (fun _ i _ => l.length - (intOf i).toNat)
   case atStart => exact ⟨0, _, Nat.zero_le _, rfl, rfl, by omega, by omega, Hi, Below.refl _ _⟩
   case round =>
    obtain ⟨k, q, hk, rfl, rfl, q0, q1, hi, he⟩ := hrel
    by_cases hlt : k < l.length
    · obtain ⟨s1, s2⟩ := hi.step hlt
      obtain ⟨b, off, rfl, hb, hc⟩ := Reads.at_ (hr.ext he).reads (k := k) hlt
      obtain ⟨d, hd⟩ : ∃ d, d = l[k] := ⟨_, rfl⟩
      have hdl : l[k]? = some d := by rw [hd]; exact List.getElem?_eq_getElem hlt
      have hdo := Hok.out d (List.mem_of_getElem? hdl)
      unfold maxLen at hdo
      have c0 := hc 0 _ (flat_at _ 1 sone_length l k 0 d hdl (by omega))
      rw [Nat.add_zero, Nat.mul_one] at c0
      rw [← hd] at s1 s2
      clear hc hd hdl
      have e1 : szL (slens d) q = if q - (d.size : Int) < 0 then -1 else q - d.size := rfl
      rw [e1] at s1 s2
      clear e1
      by_cases hn : q - (d.size : Int) < 0
      · rw [if_pos hn] at s1
        have E1 := hU (s1 (by decide))
        clear s1 s2 Hi hi
        go_wp2_with fail
        go_ret
        exact ⟨ret_int E1.out.symm, he⟩
      · rw [if_neg hn] at s2
        have H2 := hU (s2 (by omega))
        clear s1 s2 Hi hi
        go_wp2_with fail
        go_roundw
        case rel => exact ⟨k + 1, _, by omega, by go_num, rfl, by omega, by omega, H2.out, he⟩
        case measure => simp [intOf]; omega
    · have E1 := hU (hi.done (by omega))
      clear Hi hi
      go_wp2_with fail
      go_ret
      exact ⟨ret_int E1.out, he⟩
theorem toStringS_any (A : Option Addr) (c : Nat) (l : List ByteArray) (w : World) (hr : SlF AnyB sone 1 w A l c) (hl : l.length ≤ 1048576) :
 Calls Tryz.prog 40 #[.slice A l.length c] w fun e w' => ∃ g, e = .returned (.slice (some ⟨g, 0, none⟩) l.length l.length) ∧ w.heap.size ≤ g ∧ Blk w' g 9 (l.flatMap sone).toArray ∧ Ext w w' := by
 obtain ⟨Z, hZ, hmk⟩ := make_any (P := Tryz.prog) (t := 22) (e := 9) (size := 1) (bytes := 16) l.length Tryz.underlying22 (by kernel_rfl) (by omega) hl
 have HZ := hU hZ; clear hZ
 have Hs := hU (Filled.start (f := sone) (size := 1) (t := 9) (l := l) w Z)
 have He := hU (Ext.new (Below.refl w.heap.size w) (.cells Z 9))
 go_enter Tryz.func40, Tryz.ntmps40
 go_wp2
 obtain ⟨g, hg⟩ : ∃ g, g = w.heap.size := ⟨_, rfl⟩
 rw [← hg]
 rw [← hg] at Hs
 have hg0 : w.heap.size ≤ g := by omega
 clear hg
 go_loopw [4] (fun i wr => ∃ (k : Nat), k ≤ l.length ∧ i = .int .i64 k ∧ Filled sone 1 9 l g Z k wr ∧ Ext w wr) (fun i _ => l.length - (intOf i).toNat)
 case atStart => exact ⟨0, Nat.zero_le _, rfl, Hs.out, He.out⟩
 case round =>
  obtain ⟨k, hk, rfl, hi, he⟩ := hrel
  by_cases hlt : k < l.length
  · obtain ⟨b, off, rfl, hb, hc⟩ := Reads.at_ (hr.ext he).reads (k := k) hlt
    obtain ⟨d, hd⟩ : ∃ d, d = l[k] := ⟨_, rfl⟩
    have hdl : l[k]? = some d := by rw [hd]; exact List.getElem?_eq_getElem hlt
    have c0 := hc 0 _ (flat_at _ 1 sone_length l k 0 d hdl (by omega))
    rw [Nat.add_zero, Nat.mul_one] at c0
    have ht := hi.there sone_length HZ.out hlt
    have Hn := hU (hi.step sone_length HZ.out hlt)
    rw [← hd, Nat.mul_one] at Hn
    clear hc hd hdl
    have hz := Blk.frozen hi
    obtain ⟨v0, z0⟩ := Option.isSome_iff_exists.1 (ht 0 (by omega)).1
    rw [Nat.add_zero, Nat.mul_one] at z0
    clear ht
    have He2 := hU (ext_setCells (g := g) (W := w) hg0 (sone d) k wr he)
    go_wp2_with fail
    go_roundw
    case rel => exact ⟨k + 1, by omega, by go_num, Hn.out, He2.out⟩
    case measure => simp [intOf]; omega
  · have Hf := hU (hi.done HZ.out (by omega))
    clear hi
    go_wp2_with fail
    go_ret
    exact ⟨g, rfl, hg0, Hf.out, he⟩
theorem eqStringS_slf (A A' : Option Addr) (c c' : Nat) (l : List ByteArray) (w : World) (hr : SlF AnyB sone 1 w A l c) (hr' : SlF AnyB sone 1 w A' l c') (hl : l.length ≤ 1048576) :
 Calls Tryz.prog 19 #[.slice A l.length c, .slice A' l.length c'] w fun e w' => e = .returned (.bool true) ∧ Ext w w' := by
 go_enter Tryz.func19, Tryz.ntmps19
 go_wp2
 go_loopw [5] (fun i wr => ∃ (k : Nat), k ≤ l.length ∧ i = .int .i64 k ∧ Ext w wr) (fun i _ => l.length - (intOf i).toNat)
 case atStart => exact ⟨0, Nat.zero_le _, rfl, Below.refl _ _⟩
 case round =>
  obtain ⟨k, hk, rfl, he⟩ := hrel
  by_cases hlt : k < l.length
  · obtain ⟨b, off, rfl, hb, hc⟩ := Reads.at_ (hr.ext he).reads (k := k) hlt
    obtain ⟨b', off', rfl, hb', hc'⟩ := Reads.at_ (hr'.ext he).reads (k := k) hlt
    obtain ⟨d, hd⟩ : ∃ d, d = l[k] := ⟨_, rfl⟩
    have hdl : l[k]? = some d := by rw [hd]; exact List.getElem?_eq_getElem hlt
    have c0 := hc 0 _ (flat_at _ 1 sone_length l k 0 d hdl (by omega))
    have b0 := hc' 0 _ (flat_at _ 1 sone_length l k 0 d hdl (by omega))
    rw [Nat.add_zero, Nat.mul_one] at c0 b0
    clear hc hc' hd hdl
    have z0 : (0 : Int) ≤ (k : Int) := by omega
    have z1 : (k : Int) < (l.length : Int) := by omega
    go_wp2_with fail
    go_quiet (fail)
    go_wp2_with fail
    go_roundw
    case rel => exact ⟨k + 1, by omega, by go_num, ⟨he.os, he.tape, he.output, he.size, he.block⟩⟩
    case measure => simp [intOf]; omega
  · go_wp2_with fail
    go_ret
    exact ⟨rfl, he⟩
def half (n : Nat) : Nat := 2 ^ Nat.log2 (n - 1)
theorem half_pos (n : Nat) : 0 < half n := Nat.two_pow_pos _
theorem half_lt {n : Nat} (h : 2 ≤ n) : half n < n := by
 have := Nat.log2_self_le (n := n - 1) (by omega)
 unfold half; omega
theorem half_eq {n k : Nat} (h1 : 2 ^ k < n) (h2 : n ≤ 2 ^ (k + 1)) : half n = 2 ^ k := by
 have h0 : 0 < 2 ^ k := Nat.two_pow_pos _
 have : Nat.log2 (n - 1) = k := (Nat.log2_eq_iff (by omega)).2 ⟨by omega, by omega⟩
 rw [half, this]
def hashes (w : Int) (l : List ByteArray) : Bool := l.all fun s => (s.size : Int) == w
def nodeT (w : Int) (t : ByteArray) : ByteArray := digest w 1 t
end Go.Proofs.YtlgdghpnfclgpaaGreat
namespace Go.Proofs.YtlgdghpnfclgpaaGreat
set_option linter.unusedSimpArgs false
set_option linter.unusedVariables false
section
variable {α : Type} (nd : α → α → α) (e : α)
def mrF : Nat → List α → α
 | 0, _ => e
 | f + 1, l => match l with
   | [] => e
   | [x] => x
   | x :: y :: r => nd (mrF f ((x :: y :: r).take (half (x :: y :: r).length))) (mrF f ((x :: y :: r).drop (half (x :: y :: r).length)))
def mroot (l : List α) : α := mrF nd e l.length l
theorem mrF_fuel : ∀ (f g : Nat) (l : List α), l.length ≤ f → l.length ≤ g → mrF nd e f l = mrF nd e g l
 | 0, 0, _, _, _ => rfl
 | 0, g + 1, l, h, _ => by
   obtain rfl : l = [] := List.eq_nil_of_length_eq_zero (by omega)
   rfl
 | f + 1, 0, l, _, h => by
   obtain rfl : l = [] := List.eq_nil_of_length_eq_zero (by omega)
   rfl
 | f + 1, g + 1, [], _, _ => rfl
 | f + 1, g + 1, [x], _, _ => rfl
 | f + 1, g + 1, x :: y :: r, hf, hg => by
   have l1 := half_lt (n := (x :: y :: r).length) (by simp)
   have l2 := half_pos (x :: y :: r).length
   simp only [mrF]
   rw [mrF_fuel f g _ (by rw [List.length_take]; omega) (by rw [List.length_take]; omega), mrF_fuel f g _ (by rw [List.length_drop]; omega) (by rw [List.length_drop]; omega)]
theorem mroot_nil : mroot nd e [] = e := rfl
theorem mroot_one (x : α) : mroot nd e [x] = x := rfl
theorem mroot_more {l : List α} (h : 2 ≤ l.length) : mroot nd e l = nd (mroot nd e (l.take (half l.length))) (mroot nd e (l.drop (half l.length))) := by
 have l1 := half_lt h
 have l2 := half_pos l.length
 match l, h, l1, l2 with
 | x :: y :: r, _, l1, l2 =>
   unfold mroot
   obtain ⟨f, hf⟩ : ∃ f, (x :: y :: r).length = f + 1 := ⟨r.length + 1, by simp⟩
   rw [hf, mrF, ← hf]
   rw [mrF_fuel nd e f ((x :: y :: r).take (half (x :: y :: r).length)).length _ (by rw [List.length_take]; omega) (Nat.le_refl _), mrF_fuel nd e f ((x :: y :: r).drop (half (x :: y :: r).length)).length _ (by rw [List.length_drop]; omega) (Nat.le_refl _)]
theorem mroot_join {y z : List α} {k : Nat} (hy : y.length = 2 ^ k) (h0 : 0 < z.length) (hz : z.length ≤ 2 ^ k) : mroot nd e (y ++ z) = nd (mroot nd e y) (mroot nd e z) := by
 have h1 : 0 < 2 ^ k := Nat.two_pow_pos _
 have hl : (y ++ z).length = 2 ^ k + z.length := by rw [List.length_append, hy]
 have hh : half (y ++ z).length = 2 ^ k := half_eq (by omega) (by rw [hl, Nat.pow_succ]; omega)
 rw [mroot_more nd e (by omega), hh, ← hy, List.take_left, List.drop_left]
def carry : Nat → Nat → List α → α → List α
 | 0, _, s, v => v :: s
 | _ + 1, _, [], v => [v]
 | f + 1, n, p :: r, v => if n % 2 = 1 then carry f (n / 2) r (nd p v) else v :: p :: r
theorem carry_even : ∀ (f n : Nat) (s : List α) (v : α), n % 2 = 0 → carry nd f n s v = v :: s
 | 0, _, _, _, _ => rfl
 | f + 1, n, [], v, _ => rfl
 | f + 1, n, p :: r, v, h => by rw [carry, if_neg (by omega)]
theorem carry_fuel : ∀ (f g n : Nat) (s : List α) (v : α), n ≤ f → n ≤ g → carry nd f n s v = carry nd g n s v
 | 0, g, n, s, v, h, _ => by rw [carry_even nd 0 n s v (by omega), carry_even nd g n s v (by omega)]
 | f + 1, 0, n, s, v, _, h => by rw [carry_even nd 0 n s v (by omega), carry_even nd (f + 1) n s v (by omega)]
 | f + 1, g + 1, n, [], v, _, _ => rfl
 | f + 1, g + 1, n, p :: r, v, hf, hg => by
   rw [carry, carry]
   by_cases h : n % 2 = 1
   · rw [if_pos h, if_pos h]
     exact carry_fuel f g (n / 2) r (nd p v) (by omega) (by omega)
   · rw [if_neg h, if_neg h]
def carryN (n : Nat) (s : List α) (v : α) : List α := carry nd n n s v
theorem carryN_even {n : Nat} {s : List α} {v : α} (h : n % 2 = 0) : carryN nd n s v = v :: s := by
 exact carry_even nd n n s v h
theorem carryN_odd {n : Nat} {s : List α} {p v : α} (h : n % 2 = 1) : carryN nd n (p :: s) v = carryN nd (n / 2) s (nd p v) := by
 unfold carryN
 cases n with
 | zero => omega
 | succ n =>
   rw [carry, if_pos h]
   exact carry_fuel nd n ((n + 1) / 2) _ s _ (by omega) (Nat.le_refl _)
def peaksOf (l : List α) : List α := (l.foldl (fun (a : Nat × List α) x => (a.1 + 1, carryN nd a.1 a.2 x)) (0, [])).2
inductive Stk : Nat → Nat → List α → List α → Prop
 | nil (k : Nat) : Stk 0 k [] []
 | even {n k : Nat} {l s : List α} : Stk (n + 1) (k + 1) l s → Stk (2 * (n + 1)) k l s
 | odd {n k : Nat} {l y s : List α} : Stk n (k + 1) l s → y.length = 2 ^ k → Stk (2 * n + 1) k (l ++ y) (mroot nd e y :: s)
theorem Stk.len {n k : Nat} {l s : List α} (h : Stk nd e n k l s) : l.length = n * 2 ^ k := by
 induction h with
 | nil => simp
 | even _ ih => rw [ih, Nat.pow_succ, ← Nat.mul_assoc, Nat.mul_comm 2, Nat.mul_assoc, Nat.mul_assoc, Nat.mul_comm 2]
 | @odd n k l y s _ hy ih =>
   rw [List.length_append, ih, hy, Nat.pow_succ, Nat.add_mul, Nat.one_mul, Nat.mul_comm 2 n, Nat.mul_assoc, Nat.mul_comm 2]
theorem Stk.step {n k : Nat} {l s : List α} (h : Stk nd e n k l s) : ∀ x : List α, x.length = 2 ^ k → Stk nd e (n + 1) k (l ++ x) (carryN nd n s (mroot nd e x)) := by
 induction h with
 | nil k =>
   intro x hx
   rw [carryN_even nd rfl]
   exact Stk.odd (Stk.nil (k + 1)) hx
 | @even n k l s h _ =>
   intro x hx
   rw [carryN_even nd (by omega)]
   exact Stk.odd h hx
 | @odd n k l y s h hy ih =>
   intro x hx
   have h0 : 0 < 2 ^ k := Nat.two_pow_pos _
   rw [carryN_odd nd (by omega), show (2 * n + 1) / 2 = n by omega, ← mroot_join nd e hy (by omega) (by omega), List.append_assoc, show 2 * n + 1 + 1 = 2 * (n + 1) by omega]
   exact Stk.even (ih (y ++ x) (by rw [List.length_append, hy, hx, Nat.pow_succ]; omega))
theorem Stk.fold {n k : Nat} {l s : List α} (h : Stk nd e n k l s) : ∀ z : List α, 0 < z.length → z.length ≤ 2 ^ k → s.foldl (fun r p => nd p r) (mroot nd e z) = mroot nd e (l ++ z) := by
 induction h with
 | nil k => intro z _ _; simp
 | @even n k l s h ih =>
   intro z h0 hz
   exact ih z h0 (by rw [Nat.pow_succ]; omega)
 | @odd n k l y s h hy ih =>
   intro z h0 hz
   rw [List.foldl_cons, ← mroot_join nd e hy h0 hz, List.append_assoc]
   exact ih (y ++ z) (by rw [List.length_append]; omega) (by rw [List.length_append, hy, Nat.pow_succ]; omega)
def rootS : List α → α
 | [] => e
 | t :: s => s.foldl (fun r p => nd p r) t
theorem Stk.root {n k : Nat} {l s : List α} (h : Stk nd e n k l s) : rootS nd e s = mroot nd e l := by
 induction h with
 | nil => rfl
 | even _ ih => exact ih
 | @odd n k l y s h hy _ => exact h.fold nd e y (by rw [hy]; exact Nat.two_pow_pos _) (by rw [hy, Nat.pow_succ]; omega)
theorem peaks_fold : ∀ (r : List α) (l s : List α), Stk nd e l.length 0 l s → Stk nd e (l.length + r.length) 0 (l ++ r) (r.foldl (fun (a : Nat × List α) x => (a.1 + 1, carryN nd a.1 a.2 x)) (l.length, s)).2
 | [], l, s, h => by simpa using h
 | x :: r, l, s, h => by
   have h1 := h.step nd e [x] rfl
   rw [mroot_one] at h1
   have h2 := peaks_fold r (l ++ [x]) (carryN nd l.length s x) (by rw [List.length_append]; exact h1)
   simp only [List.length_append, List.length_cons, List.length_nil, List.append_assoc, List.singleton_append, List.foldl_cons] at h2 ⊢
   rw [show l.length + (r.length + 1) = l.length + (0 + 1) + r.length by omega]
   exact h2
theorem stk_peaks (l : List α) : Stk nd e l.length 0 l (peaksOf nd l) := by
 have := peaks_fold nd e l [] [] (Stk.nil 0)
 simpa [peaksOf] using this
theorem peaks_root (l : List α) : rootS nd e (peaksOf nd l) = mroot nd e l := (stk_peaks nd e l).root
def growL (n : Nat) (s : List α) (r : List α) : List α := (r.foldl (fun (a : Nat × List α) x => (a.1 + 1, carryN nd a.1 a.2 x)) (n, s)).2
theorem growL_nil (n : Nat) (s : List α) : growL nd n s [] = s := rfl
theorem growL_cons (n : Nat) (s : List α) (x : α) (r : List α) : growL nd n s (x :: r) = growL nd (n + 1) (carryN nd n s x) r := rfl
theorem fold_fst : ∀ (r : List α) (a : Nat × List α), (r.foldl (fun (a : Nat × List α) x => (a.1 + 1, carryN nd a.1 a.2 x)) a).1 = a.1 + r.length
 | [], a => rfl
 | x :: r, a => by rw [List.foldl_cons, fold_fst r]; simp only [List.length_cons]; omega
theorem growL_append (n : Nat) (s r t : List α) : growL nd n s (r ++ t) = growL nd (n + r.length) (growL nd n s r) t := by
 unfold growL
 rw [List.foldl_append, ← fold_fst nd r (n, s)]
theorem peaks_append (l r : List α) : peaksOf nd (l ++ r) = growL nd l.length (peaksOf nd l) r := by
 have := growL_append nd 0 [] l r
 rw [Nat.zero_add] at this
 exact this
end
def pcF : Nat → Nat → Nat
 | 0, _ => 0
 | f + 1, n => n % 2 + pcF f (n / 2)
theorem pcF_fuel : ∀ (f g n : Nat), n ≤ f → n ≤ g → pcF f n = pcF g n
 | 0, 0, _, _, _ => rfl
 | 0, g + 1, n, h, _ => by
   obtain rfl : n = 0 := by omega
   rw [pcF, pcF, ← pcF_fuel 0 g (0 / 2) (by omega) (by omega)]; rfl
 | f + 1, 0, n, _, h => by
   obtain rfl : n = 0 := by omega
   rw [pcF, pcF, pcF_fuel f 0 (0 / 2) (by omega) (by omega)]; rfl
 | f + 1, g + 1, n, hf, hg => by rw [pcF, pcF, pcF_fuel f g (n / 2) (by omega) (by omega)]
def pc (n : Nat) : Nat := pcF n n
theorem pc_zero : pc 0 = 0 := rfl
theorem pc_step (n : Nat) : pc n = n % 2 + pc (n / 2) := by
 unfold pc
 cases n with
 | zero => rfl
 | succ n => rw [pcF, pcF_fuel n ((n + 1) / 2) _ (by omega) (Nat.le_refl _)]
theorem pc_le (n : Nat) : pc n ≤ n := by
 induction n using Nat.strongRecOn with
 | _ n ih =>
   rcases Nat.eq_zero_or_pos n with h | h
   · subst h; exact Nat.le_refl _
   · rw [pc_step]; have := ih (n / 2) (by omega); omega
theorem pc_next (n : Nat) : pc (n + 1) ≤ pc n + 1 := by
 induction n using Nat.strongRecOn with
 | _ n ih =>
   rw [pc_step (n + 1), pc_step n]
   rcases Nat.mod_two_eq_zero_or_one n with h | h
   · rw [show (n + 1) / 2 = n / 2 by omega]; omega
   · have := ih (n / 2) (by omega)
     rw [show (n + 1) / 2 = n / 2 + 1 by omega]; omega
theorem pc_even {n : Nat} (h : n % 2 = 0) : pc (n + 1) = pc n + 1 := by
 rw [pc_step (n + 1), pc_step n, show (n + 1) / 2 = n / 2 by omega]; omega
theorem pc_odd {n : Nat} (h : n % 2 = 1) : pc (n + 1) = pc (n / 2 + 1) ∧ pc n = pc (n / 2) + 1 := by
 rw [pc_step (n + 1), pc_step n, show (n + 1) / 2 = n / 2 + 1 by omega]; omega
theorem carry_len {α : Type} (nd : α → α → α) : ∀ (n : Nat) (s : List α) (v : α), s.length = pc n → (carryN nd n s v).length = pc (n + 1) := by
 intro n
 induction n using Nat.strongRecOn with
 | _ n ih =>
   intro s v hs
   rcases Nat.mod_two_eq_zero_or_one n with h | h
   · rw [carryN_even nd h, pc_even h, List.length_cons, hs]
   · obtain ⟨h1, h2⟩ := pc_odd h
     match s, hs with
     | [], hs => rw [h2] at hs; simp at hs
     | p :: r, hs =>
       rw [carryN_odd nd h, h1]
       exact ih (n / 2) (by omega) r _ (by rw [h2] at hs; simpa using hs)
theorem growL_len {α : Type} (nd : α → α → α) : ∀ (r : List α) (n : Nat) (s : List α), s.length = pc n → (growL nd n s r).length = pc (n + r.length)
 | [], n, s, h => h
 | x :: r, n, s, h => by
   rw [growL_cons, growL_len nd r _ _ (carry_len nd n s x h), List.length_cons]
   congr 1; omega
theorem peaks_len {α : Type} (nd : α → α → α) (l : List α) : (peaksOf nd l).length = pc l.length := by
 have := growL_len nd l 0 [] rfl
 rw [Nat.zero_add] at this
 exact this
end Go.Proofs.YtlgdghpnfclgpaaGreat

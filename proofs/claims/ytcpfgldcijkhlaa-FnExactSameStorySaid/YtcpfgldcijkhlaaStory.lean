/-
  SameStory: plain, and walks. Written by program (gen_story.py). No condition.
-/
import Derived.Test.YtcpfgldcijkhlaaNDark
import Derived.Test.YtcpfgldcijkhlaaPrefixOwn
namespace Go.Proofs.Ytcpfgldcijkhlaa
open Go.RowKit
set_option linter.unusedVariables false
set_option linter.unusedSimpArgs false

def isOne (x : GivenD) (p q : Int) : Bool := (x.who == p) || (x.who == q)
def storyAt (l : List GivenD) (p q : Int) (x : GivenD) : Bool := !isOne x p q || prefixB (givenTo l p x.entry.topic) (givenTo l q x.entry.topic)
def sameStory (d : DarkD) (p q : Int) : Bool := decide (d.scanned.length ≤ 200) && d.scanned.all (storyAt d.scanned p q)
def StoryTo (l : List GivenD) (p q : Int) (k : Nat) : Prop := ∀ j x, j < k → l[j]? = some x → storyAt l p q x = true
theorem StoryTo.zero (l : List GivenD) (p q : Int) : StoryTo l p q 0 := fun j x h => absurd h (by omega)
theorem StoryTo.next {l : List GivenD} {p q : Int} {k : Nat} {x : GivenD} (h : StoryTo l p q k) (hx : l[k]? = some x) (hs : storyAt l p q x = true) : StoryTo l p q (k + 1) := fun j y hj hy => by
  by_cases e : j = k
  · subst e; rw [hx] at hy; cases hy; exact hs
  · exact h j y (by omega) hy
theorem StoryTo.all {d : DarkD} {p q : Int} {k : Nat} (h : StoryTo d.scanned p q k) (hk : d.scanned.length ≤ k) (hl : d.scanned.length ≤ 200) : sameStory d p q = true := by
  simp only [sameStory, decide_eq_true hl, Bool.true_and, List.all_eq_true]
  intro x hx
  obtain ⟨j, hj⟩ := List.getElem?_of_mem hx
  exact h j x (by have := (List.getElem?_eq_some_iff.1 hj).1; omega) hj
theorem story_no {d : DarkD} {p q : Int} {k : Nat} {x : GivenD} (hx : d.scanned[k]? = some x) (hs : storyAt d.scanned p q x = false) : sameStory d p q = false := by
  have : d.scanned.all (storyAt d.scanned p q) = false := by
    rw [List.all_eq_false]
    exact ⟨x, List.mem_of_getElem? hx, by rw [hs]; decide⟩
  rw [sameStory, this, Bool.and_false]
theorem story_long {d : DarkD} {p q : Int} (h : ¬ d.scanned.length ≤ 200) : sameStory d p q = false := by rw [sameStory, decide_eq_false h]; rfl
set_option maxHeartbeats 8000000 in
set_option maxRecDepth 100000 in
theorem implSameStory_any (d : DarkD) (p q : Int) (A0 : Option Addr) (c0 : Nat) (A1 : Option Addr) (c1 : Nat) (A2 : Option Addr) (c2 : Nat) (A3 : Option Addr) (c3 : Nat) (A4 : Option Addr) (c4 : Nat) (A5 : Option Addr) (c5 : Nat) (w : World) (hok : d.Ok) (s0 : SlN AnyB ClientD.In 8 w A0 d.clients c0) (s1 : SlN AnyB ScannerD.In 10 w A1 d.scanners c1) (s2 : SlF AnyB GivenD.cells 7 w A2 d.given c2) (s3 : SlF AnyB GivenD.cells 7 w A3 d.scanned c3) (s4 : SlN AnyB ItemD.In 22 w A4 d.items c4) (s5 : SlF AnyB MeetingD.cells 4 w A5 d.met c5) (hf : ∀ n ∈ d.lens, n ≤ 1048576) :
    Calls Try.prog 68 #[.agg #[.slice A0 d.clients.length c0, .slice A1 d.scanners.length c1, .slice A2 d.given.length c2, .slice A3 d.scanned.length c3, .slice A4 d.items.length c4, .slice A5 d.met.length c5], .int .i64 p, .int .i64 q] w fun e w' => e = .returned (.bool (sameStory d p q)) ∧ Ext w w' := by
  have hl : d.scanned.length ≤ 1048576 := hf _ (by simp [DarkD.lens])
  have S3 := Lib.hid s3
  clear hok hf s0 s1 s2 s3 s4 s5
  obtain ⟨fin, hfin⟩ : ∃ fin, fin = sameStory d p q := ⟨_, rfl⟩
  have Hf := Lib.hid hfin
  rw [← hfin]
  clear hfin
  have K0 := Blk.new w 125 #[.slice A0 d.clients.length c0, .slice A1 d.scanners.length c1, .slice A2 d.given.length c2, .slice A3 d.scanned.length c3, .slice A4 d.items.length c4, .slice A5 d.met.length c5]
  have he := Ext.new (Below.refl w.heap.size w) (.cells #[.slice A0 d.clients.length c0, .slice A1 d.scanners.length c1, .slice A2 d.given.length c2, .slice A3 d.scanned.length c3, .slice A4 d.items.length c4, .slice A5 d.met.length c5] 125)
  obtain ⟨r0, m0⟩ := K0.rules
  by_cases hs : d.scanned.length ≤ 200
  case neg =>
    have E := Lib.hid (show fin = false by rw [Hf.out]; exact story_long hs)
    have hd : decide (d.scanned.length ≤ 200) = false := by simpa using hs
    go_enter Try.func68, Try.ntmps68
    go_wp2_with (go_at_call 95; refine (isSmall_any _ _ _ _).mono ?_; rintro e w' ⟨rfl, rfl⟩)
    go_ret
    exact ⟨ret_bool E.out.symm, he⟩
  have hd : decide (d.scanned.length ≤ 200) = true := by simpa using hs
  have HA := Lib.hid (fun k h hk => (StoryTo.all (d := d) (p := p) (q := q) (k := k) h hk hs))
  have HN := Lib.hid (fun k x hx h => story_no (d := d) (p := p) (q := q) (k := k) (x := x) hx h)
  rw [← Hf.out] at HA HN
  clear Hf
  go_enter Try.func68, Try.ntmps68
  go_wp2_with (go_at_call 95; refine (isSmall_any _ _ _ _).mono ?_; rintro e w' ⟨rfl, rfl⟩)
  obtain ⟨g, hg⟩ : ∃ g, g = w.heap.size := ⟨_, rfl⟩
  rw [← hg] at K0
  rw [← hg]
  have Z0 := Lib.hid K0; have Z1 := Lib.hid he
  clear hg r0 m0 K0 he
  go_loopw [17] (fun i wr => ∃ (k : Nat), k ≤ d.scanned.length ∧ i = .int .i64 k ∧ StoryTo d.scanned p q k ∧ Blk wr g 125 #[.slice A0 d.clients.length c0, .slice A1 d.scanners.length c1, .slice A2 d.given.length c2, .slice A3 d.scanned.length c3, .slice A4 d.items.length c4, .slice A5 d.met.length c5] ∧ Ext w wr) (fun i _ => d.scanned.length - (intOf i).toNat)
  case atStart => exact ⟨0, Nat.zero_le _, rfl, StoryTo.zero _ _ _, Z0.out, Z1.out⟩
  case round =>
    clear Z0 Z1
    obtain ⟨k, hk, rfl, hst, K0, he⟩ := hrel
    have KS := Lib.hid hst; clear hst
    obtain ⟨r0, m0⟩ := K0.rules
    by_cases hlt : k < d.scanned.length
    case neg =>
      have E := Lib.hid (HA.out k KS.out (by omega))
      have d1 : decide ((k : Int) < (d.scanned.length : Int)) = false := by rw [decide_eq_false_iff_not]; omega
      go_wp2_with (go_at_call 95; refine (isSmall_any _ _ _ _).mono ?_; rintro e w' ⟨rfl, rfl⟩)
      go_ret
      exact ⟨ret_bool E.out.symm, he⟩
    have d1 : decide ((k : Int) < (d.scanned.length : Int)) = true := by rw [decide_eq_true_eq]; omega
    obtain ⟨b, off, hA3, hb, hc⟩ := Reads.at_ (S3.out.ext he).reads (k := k) hlt
    obtain ⟨x, hx⟩ : ∃ x, x = d.scanned[k] := ⟨_, rfl⟩
    have hxl : d.scanned[k]? = some x := by rw [hx]; exact List.getElem?_eq_getElem hlt
    obtain ⟨c0_, c1_, c2_, c3_, c4_, c5_, c6_⟩ := given_at hc hxl
    have Hxl := Lib.hid hxl
    subst hA3
    clear hc hx hxl
    cases b1 : (x.who == p) <;> cases b2 : (x.who == q)
    case false.false =>
      have b1n : (x.who != p) = true := by simp [bne, b1]
      have b2n : (x.who != q) = true := by simp [bne, b2]
      have N := Lib.hid (KS.out.next Hxl.out (by simp [storyAt, isOne, b1, b2]))
      have KK := Lib.hid K0; clear K0
      go_wp2_with fail
      go_roundw
      case rel => exact ⟨k + 1, by omega, by go_num, N.out, KK.out.alloc _, he.new _⟩
      case measure => simp [intOf]; omega
    all_goals
      have W1 : Hid (isOne x p q = true) := Lib.hid (by simp only [isOne, b1, b2]; rfl)
      have b1n : (x.who != p) = !(x.who == p) := rfl
      have b2n : (x.who != q) = !(x.who == q) := rfl
      rw [b1] at b1n
      rw [b2] at b2n
      simp only [Bool.not_true, Bool.not_false] at b1n b2n
      have KC := Lib.hid (Blk.new wr 161 #[.int .i64 x.who, .int .i64 x.leaf, .string x.entry.topic, .int .i64 x.entry.index, .int .i64 x.entry.time, .string x.entry.key, .string x.entry.body])
      have K1 := Lib.hid (K0.alloc (.cells #[.int .i64 x.who, .int .i64 x.leaf, .string x.entry.topic, .int .i64 x.entry.index, .int .i64 x.entry.time, .string x.entry.key, .string x.entry.body] 161))
      have he1 := Lib.hid (he.new (.cells #[.int .i64 x.who, .int .i64 x.leaf, .string x.entry.topic, .int .i64 x.entry.index, .int .i64 x.entry.time, .string x.entry.key, .string x.entry.body] 161))
      have lw : g < wr.heap.size := K0.lt
      go_wp2_with fail
      obtain ⟨gc, hgc⟩ : ∃ gc, gc = wr.heap.size := ⟨_, rfl⟩
      rw [← hgc] at KC
      (try rw [← hgc])
      clear hgc r0 m0 K0 he c0_ c1_ c2_ c3_ c4_ c5_ c6_ hb
      generalize wr.alloc (.cells #[.int .i64 x.who, .int .i64 x.leaf, .string x.entry.topic, .int .i64 x.entry.index, .int .i64 x.entry.time, .string x.entry.key, .string x.entry.body] 161) = w1 at *
      have S3r := Lib.hid (fun (w2 : World) (h : Ext w1 w2) => (S3.out.ext (he1.out.next h)).reads)
      have R3 := Lib.hid (fun (w2 : World) (h : Ext w1 w2) => (K1.out.ext h).cell 3)
      have RC := Lib.hid (fun (w2 : World) (h : Ext w1 w2) (j : Nat) => (KC.out.ext h).cell j)
      have la := Nat.le_trans (givenTo_len d.scanned p x.entry.topic) (by decide : 200 ≤ 1048576)
      have lb := Nat.le_trans (givenTo_len d.scanned q x.entry.topic) (by decide : 200 ≤ 1048576)
      have LA := Lib.hid la; have LB := Lib.hid lb; clear la lb
      obtain ⟨fa, hfa⟩ : ∃ fa, fa = givenTo d.scanned p x.entry.topic := ⟨_, rfl⟩
      obtain ⟨fb, hfb⟩ : ∃ fb, fb = givenTo d.scanned q x.entry.topic := ⟨_, rfl⟩
      have HG1 := Lib.hid (fun (w2 : World) (h : Ext w1 w2) => implGivenTo_any (some ⟨b, off, none⟩) c3 d.scanned p x.entry.topic w2 (S3r.out w2 h) hl)
      have HG2 := Lib.hid (fun (w2 : World) (h : Ext w1 w2) => implGivenTo_any (some ⟨b, off, none⟩) c3 d.scanned q x.entry.topic w2 (S3r.out w2 h) hl)
      rw [← hfa] at LA HG1
      rw [← hfb] at LB HG2
      have HP : Hid (storyAt d.scanned p q x = prefixB fa fb) := Lib.hid (by rw [hfa, hfb, storyAt, W1.out]; rfl)
      clear hfa hfb
      cases b5 : prefixB fa fb
      case false =>
        have E := Lib.hid (HN.out k x Hxl.out (by rw [HP.out, b5]))
        go_region_held3 (fun w' => w'.cell? ⟨g, 3, none⟩ = some (.slice (some ⟨b, off, none⟩) d.scanned.length c3) ∧ Ext w1 w')
          (first | (have z0 : Ext w1 w1.drew := ⟨rfl, rfl, rfl, Nat.le_refl _, fun _ _ => rfl⟩; exact ⟨R3.out _ z0, z0⟩) | (go_split_ands; have z1 := Ext.next (by assumption) h1; exact ⟨R3.out _ z1, z1⟩))
          (first | (go_at_call 27; go_split_ands; (with_reducible refine (HG1.out _ (by assumption)).mono ?_); rintro e w' ⟨va, rfl, oa, h1⟩; (try (replace ob := ob.ext h1))) | (go_at_call 27; go_split_ands; (with_reducible refine (HG2.out _ (by assumption)).mono ?_); rintro e w' ⟨vb, rfl, ob, h1⟩; (try (replace oa := oa.ext h1))) | (go_at_call 144; (with_reducible refine (PrefixOf_own oa ob LA.out LB.out).mono ?_); rintro e w' ⟨e1, h1⟩; rw [b5] at e1; subst e1))
        all_goals
          go_split_ands
          go_wp2_with fail
          go_ret
          exact ⟨ret_bool E.out.symm, he1.out.next (by assumption)⟩
      case true =>
        have N := Lib.hid (KS.out.next Hxl.out (by rw [HP.out, b5]))
        go_region_held3 (fun w' => w'.cell? ⟨g, 3, none⟩ = some (.slice (some ⟨b, off, none⟩) d.scanned.length c3) ∧ Ext w1 w')
          (first | (have z0 : Ext w1 w1.drew := ⟨rfl, rfl, rfl, Nat.le_refl _, fun _ _ => rfl⟩; exact ⟨R3.out _ z0, z0⟩) | (go_split_ands; have z1 := Ext.next (by assumption) h1; exact ⟨R3.out _ z1, z1⟩))
          (first | (go_at_call 27; go_split_ands; (with_reducible refine (HG1.out _ (by assumption)).mono ?_); rintro e w' ⟨va, rfl, oa, h1⟩; (try (replace ob := ob.ext h1))) | (go_at_call 27; go_split_ands; (with_reducible refine (HG2.out _ (by assumption)).mono ?_); rintro e w' ⟨vb, rfl, ob, h1⟩; (try (replace oa := oa.ext h1))) | (go_at_call 144; (with_reducible refine (PrefixOf_own oa ob LA.out LB.out).mono ?_); rintro e w' ⟨e1, h1⟩; rw [b5] at e1; subst e1))
        all_goals
          go_split_ands
          go_wp2_with fail
          go_roundw
          case rel => exact ⟨k + 1, by omega, by go_num, N.out, K1.out.ext (by assumption), he1.out.next (by assumption)⟩
          case measure => simp [intOf]; omega
set_option maxHeartbeats 8000000 in
set_option maxRecDepth 100000 in
theorem specSameStory_any (d : DarkD) (p q : Int) (A0 : Option Addr) (c0 : Nat) (A1 : Option Addr) (c1 : Nat) (A2 : Option Addr) (c2 : Nat) (A3 : Option Addr) (c3 : Nat) (A4 : Option Addr) (c4 : Nat) (A5 : Option Addr) (c5 : Nat) (w : World) (hok : d.Ok) (s0 : SlN AnyB ClientD.In 8 w A0 d.clients c0) (s1 : SlN AnyB ScannerD.In 10 w A1 d.scanners c1) (s2 : SlF AnyB GivenD.cells 7 w A2 d.given c2) (s3 : SlF AnyB GivenD.cells 7 w A3 d.scanned c3) (s4 : SlN AnyB ItemD.In 22 w A4 d.items c4) (s5 : SlF AnyB MeetingD.cells 4 w A5 d.met c5) (hf : ∀ n ∈ d.lens, n ≤ 1048576) :
    Calls Try.prog 66 #[.agg #[.slice A0 d.clients.length c0, .slice A1 d.scanners.length c1, .slice A2 d.given.length c2, .slice A3 d.scanned.length c3, .slice A4 d.items.length c4, .slice A5 d.met.length c5], .int .i64 p, .int .i64 q] w fun e w' => e = .returned (.bool (sameStory d p q)) ∧ Ext w w' := by
  have hl : d.scanned.length ≤ 1048576 := hf _ (by simp [DarkD.lens])
  have S3 := Lib.hid s3
  clear hok hf s0 s1 s2 s3 s4 s5
  obtain ⟨fin, hfin⟩ : ∃ fin, fin = sameStory d p q := ⟨_, rfl⟩
  have Hf := Lib.hid hfin
  rw [← hfin]
  clear hfin
  have K0 := Blk.new w 125 #[.slice A0 d.clients.length c0, .slice A1 d.scanners.length c1, .slice A2 d.given.length c2, .slice A3 d.scanned.length c3, .slice A4 d.items.length c4, .slice A5 d.met.length c5]
  have he := Ext.new (Below.refl w.heap.size w) (.cells #[.slice A0 d.clients.length c0, .slice A1 d.scanners.length c1, .slice A2 d.given.length c2, .slice A3 d.scanned.length c3, .slice A4 d.items.length c4, .slice A5 d.met.length c5] 125)
  obtain ⟨r0, m0⟩ := K0.rules
  by_cases hs : d.scanned.length ≤ 200
  case neg =>
    have E := Lib.hid (show fin = false by rw [Hf.out]; exact story_long hs)
    have hd : decide (d.scanned.length ≤ 200) = false := by simpa using hs
    have hpos : decide ((0 : Int) < (d.scanned.length : Int)) = true := by rw [decide_eq_true_eq]; omega
    have hpos2 : 0 < d.scanned.length := by omega
    go_enter Try.func66, Try.ntmps66
    go_wp2_with fail
    refine wp_loop_rounds 1 ?_
    rw [rounds_succ]
    go_wp2_with (go_at_call 93; refine (l23Small_any _ _ _ _).mono ?_; rintro e w' ⟨rfl, rfl⟩)
    go_ret
    exact ⟨ret_bool E.out.symm, he⟩
  have hd : decide (d.scanned.length ≤ 200) = true := by simpa using hs
  have HA := Lib.hid (fun k h hk => (StoryTo.all (d := d) (p := p) (q := q) (k := k) h hk hs))
  have HN := Lib.hid (fun k x hx h => story_no (d := d) (p := p) (q := q) (k := k) (x := x) hx h)
  rw [← Hf.out] at HA HN
  clear Hf
  go_enter Try.func66, Try.ntmps66
  go_wp2_with (go_at_call 93; refine (l23Small_any _ _ _ _).mono ?_; rintro e w' ⟨rfl, rfl⟩)
  obtain ⟨g, hg⟩ : ∃ g, g = w.heap.size := ⟨_, rfl⟩
  rw [← hg] at K0
  rw [← hg]
  have Z0 := Lib.hid K0; have Z1 := Lib.hid he
  clear hg r0 m0 K0 he
  go_loopw [7] (fun i wr => ∃ (k : Nat), k ≤ d.scanned.length ∧ i = .int .i64 k ∧ StoryTo d.scanned p q k ∧ Blk wr g 125 #[.slice A0 d.clients.length c0, .slice A1 d.scanners.length c1, .slice A2 d.given.length c2, .slice A3 d.scanned.length c3, .slice A4 d.items.length c4, .slice A5 d.met.length c5] ∧ Ext w wr) (fun i _ => d.scanned.length - (intOf i).toNat)
  case atStart => exact ⟨0, Nat.zero_le _, rfl, StoryTo.zero _ _ _, Z0.out, Z1.out⟩
  case round =>
    clear Z0 Z1
    obtain ⟨k, hk, rfl, hst, K0, he⟩ := hrel
    have KS := Lib.hid hst; clear hst
    obtain ⟨r0, m0⟩ := K0.rules
    by_cases hlt : k < d.scanned.length
    case neg =>
      have E := Lib.hid (HA.out k KS.out (by omega))
      have d1 : decide ((k : Int) < (d.scanned.length : Int)) = false := by rw [decide_eq_false_iff_not]; omega
      go_wp2_with (go_at_call 93; refine (l23Small_any _ _ _ _).mono ?_; rintro e w' ⟨rfl, rfl⟩)
      go_ret
      exact ⟨ret_bool E.out.symm, he⟩
    have d1 : decide ((k : Int) < (d.scanned.length : Int)) = true := by rw [decide_eq_true_eq]; omega
    obtain ⟨b, off, hA3, hb, hc⟩ := Reads.at_ (S3.out.ext he).reads (k := k) hlt
    obtain ⟨x, hx⟩ : ∃ x, x = d.scanned[k] := ⟨_, rfl⟩
    have hxl : d.scanned[k]? = some x := by rw [hx]; exact List.getElem?_eq_getElem hlt
    obtain ⟨c0_, c1_, c2_, c3_, c4_, c5_, c6_⟩ := given_at hc hxl
    have Hxl := Lib.hid hxl
    subst hA3
    clear hc hx hxl
    cases b1 : (x.who == p) <;> cases b2 : (x.who == q)
    case false.false =>
      have N := Lib.hid (KS.out.next Hxl.out (by simp [storyAt, isOne, b1, b2]))
      have KK := Lib.hid K0; clear K0
      go_wp2_with (go_at_call 93; refine (l23Small_any _ _ _ _).mono ?_; rintro e w' ⟨rfl, rfl⟩)
      go_quiet (fail)
      go_wp2_with fail
      go_roundw
      case rel => exact ⟨k + 1, by omega, by go_num, N.out, (KK.out.alloc _).drewN _, Ext.drewN (he.new _) _⟩
      case measure => simp [intOf]; omega
    case false.true =>
      have W1 : Hid (isOne x p q = true) := Lib.hid (by simp only [isOne, b1, b2]; rfl)
      have b1n : (x.who != p) = !(x.who == p) := rfl
      have b2n : (x.who != q) = !(x.who == q) := rfl
      rw [b1] at b1n
      rw [b2] at b2n
      simp only [Bool.not_true, Bool.not_false] at b1n b2n
      have KC := Lib.hid (Blk.new wr 161 #[.int .i64 x.who, .int .i64 x.leaf, .string x.entry.topic, .int .i64 x.entry.index, .int .i64 x.entry.time, .string x.entry.key, .string x.entry.body])
      have K1 := Lib.hid (K0.alloc (.cells #[.int .i64 x.who, .int .i64 x.leaf, .string x.entry.topic, .int .i64 x.entry.index, .int .i64 x.entry.time, .string x.entry.key, .string x.entry.body] 161))
      have he1 := Lib.hid (he.new (.cells #[.int .i64 x.who, .int .i64 x.leaf, .string x.entry.topic, .int .i64 x.entry.index, .int .i64 x.entry.time, .string x.entry.key, .string x.entry.body] 161))
      have lw : g < wr.heap.size := K0.lt
      go_wp2_with (go_at_call 93; refine (l23Small_any _ _ _ _).mono ?_; rintro e w' ⟨rfl, rfl⟩)
      obtain ⟨gc, hgc⟩ : ∃ gc, gc = wr.heap.size := ⟨_, rfl⟩
      rw [← hgc] at KC
      (try rw [← hgc])
      clear hgc r0 m0 K0 he c0_ c1_ c2_ c3_ c4_ c5_ c6_ hb
      generalize wr.alloc (.cells #[.int .i64 x.who, .int .i64 x.leaf, .string x.entry.topic, .int .i64 x.entry.index, .int .i64 x.entry.time, .string x.entry.key, .string x.entry.body] 161) = w1 at *
      have S3r := Lib.hid (fun (w2 : World) (h : Ext w1 w2) => (S3.out.ext (he1.out.next h)).reads)
      have R3 := Lib.hid (fun (w2 : World) (h : Ext w1 w2) => (K1.out.ext h).cell 3)
      have RC := Lib.hid (fun (w2 : World) (h : Ext w1 w2) (j : Nat) => (KC.out.ext h).cell j)
      have la := Nat.le_trans (givenTo_len d.scanned p x.entry.topic) (by decide : 200 ≤ 1048576)
      have lb := Nat.le_trans (givenTo_len d.scanned q x.entry.topic) (by decide : 200 ≤ 1048576)
      have LA := Lib.hid la; have LB := Lib.hid lb; clear la lb
      obtain ⟨fa, hfa⟩ : ∃ fa, fa = givenTo d.scanned p x.entry.topic := ⟨_, rfl⟩
      obtain ⟨fb, hfb⟩ : ∃ fb, fb = givenTo d.scanned q x.entry.topic := ⟨_, rfl⟩
      have HG1 := Lib.hid (fun (w2 : World) (h : Ext w1 w2) => specGivenTo_any (some ⟨b, off, none⟩) c3 d.scanned p x.entry.topic w2 (S3r.out w2 h) hl)
      have HG2 := Lib.hid (fun (w2 : World) (h : Ext w1 w2) => specGivenTo_any (some ⟨b, off, none⟩) c3 d.scanned q x.entry.topic w2 (S3r.out w2 h) hl)
      rw [← hfa] at LA HG1
      rw [← hfb] at LB HG2
      have HP : Hid (storyAt d.scanned p q x = prefixB fa fb) := Lib.hid (by rw [hfa, hfb, storyAt, W1.out]; rfl)
      clear hfa hfb
      cases b5 : prefixB fa fb
      case false =>
        have E := Lib.hid (HN.out k x Hxl.out (by rw [HP.out, b5]))
        go_region_held3 (fun w' => w'.cell? ⟨g, 3, none⟩ = some (.slice (some ⟨b, off, none⟩) d.scanned.length c3) ∧ w'.cell? ⟨gc, 0, none⟩ = some (.int .i64 x.who) ∧ w'.cell? ⟨gc, 2, none⟩ = some (.string x.entry.topic) ∧ Ext w1 w')
          (first | (have z0 : Ext w1 w1.drew := ⟨rfl, rfl, rfl, Nat.le_refl _, fun _ _ => rfl⟩; exact ⟨R3.out _ z0, RC.out _ z0 0, RC.out _ z0 2, z0⟩) | (go_split_ands; have z1 := Ext.next (by assumption) h1; exact ⟨R3.out _ z1, RC.out _ z1 0, RC.out _ z1 2, z1⟩))
          (first | (go_at_call 25; go_split_ands; (with_reducible refine (HG1.out _ (by assumption)).mono ?_); rintro e w' ⟨va, rfl, oa, h1⟩; (try (replace ob := ob.ext h1))) | (go_at_call 25; go_split_ands; (with_reducible refine (HG2.out _ (by assumption)).mono ?_); rintro e w' ⟨vb, rfl, ob, h1⟩; (try (replace oa := oa.ext h1))) | (go_at_call 139; obtain ⟨Ya, ya, rfl, oa2⟩ := oa.slf; obtain ⟨Yb, yb, rfl, ob2⟩ := ob.slf; refine (specPrefixOf_any Ya Yb ya yb fa fb _ oa2.reads ob2.reads LA.out LB.out).mono ?_; rintro e w' ⟨e1, h1⟩; rw [b5] at e1; subst e1))
        all_goals
          go_split_ands
          go_wp2_with fail
          go_ret
          exact ⟨ret_bool E.out.symm, he1.out.next (by assumption)⟩
      case true =>
        have N := Lib.hid (KS.out.next Hxl.out (by rw [HP.out, b5]))
        go_region_held3 (fun w' => w'.cell? ⟨g, 3, none⟩ = some (.slice (some ⟨b, off, none⟩) d.scanned.length c3) ∧ w'.cell? ⟨gc, 0, none⟩ = some (.int .i64 x.who) ∧ w'.cell? ⟨gc, 2, none⟩ = some (.string x.entry.topic) ∧ Ext w1 w')
          (first | (have z0 : Ext w1 w1.drew := ⟨rfl, rfl, rfl, Nat.le_refl _, fun _ _ => rfl⟩; exact ⟨R3.out _ z0, RC.out _ z0 0, RC.out _ z0 2, z0⟩) | (go_split_ands; have z1 := Ext.next (by assumption) h1; exact ⟨R3.out _ z1, RC.out _ z1 0, RC.out _ z1 2, z1⟩))
          (first | (go_at_call 25; go_split_ands; (with_reducible refine (HG1.out _ (by assumption)).mono ?_); rintro e w' ⟨va, rfl, oa, h1⟩; (try (replace ob := ob.ext h1))) | (go_at_call 25; go_split_ands; (with_reducible refine (HG2.out _ (by assumption)).mono ?_); rintro e w' ⟨vb, rfl, ob, h1⟩; (try (replace oa := oa.ext h1))) | (go_at_call 139; obtain ⟨Ya, ya, rfl, oa2⟩ := oa.slf; obtain ⟨Yb, yb, rfl, ob2⟩ := ob.slf; refine (specPrefixOf_any Ya Yb ya yb fa fb _ oa2.reads ob2.reads LA.out LB.out).mono ?_; rintro e w' ⟨e1, h1⟩; rw [b5] at e1; subst e1))
        all_goals
          go_split_ands
          go_wp2_with fail
          go_roundw
          case rel => exact ⟨k + 1, by omega, by go_num, N.out, K1.out.ext (by assumption), he1.out.next (by assumption)⟩
          case measure => simp [intOf]; omega
    case true.false =>
      have W1 : Hid (isOne x p q = true) := Lib.hid (by simp only [isOne, b1, b2]; rfl)
      have b1n : (x.who != p) = !(x.who == p) := rfl
      have b2n : (x.who != q) = !(x.who == q) := rfl
      rw [b1] at b1n
      rw [b2] at b2n
      simp only [Bool.not_true, Bool.not_false] at b1n b2n
      have KC := Lib.hid (Blk.new wr 161 #[.int .i64 x.who, .int .i64 x.leaf, .string x.entry.topic, .int .i64 x.entry.index, .int .i64 x.entry.time, .string x.entry.key, .string x.entry.body])
      have K1 := Lib.hid (K0.alloc (.cells #[.int .i64 x.who, .int .i64 x.leaf, .string x.entry.topic, .int .i64 x.entry.index, .int .i64 x.entry.time, .string x.entry.key, .string x.entry.body] 161))
      have he1 := Lib.hid (he.new (.cells #[.int .i64 x.who, .int .i64 x.leaf, .string x.entry.topic, .int .i64 x.entry.index, .int .i64 x.entry.time, .string x.entry.key, .string x.entry.body] 161))
      have lw : g < wr.heap.size := K0.lt
      go_wp2_with (go_at_call 93; refine (l23Small_any _ _ _ _).mono ?_; rintro e w' ⟨rfl, rfl⟩)
      obtain ⟨gc, hgc⟩ : ∃ gc, gc = wr.heap.size := ⟨_, rfl⟩
      rw [← hgc] at KC
      (try rw [← hgc])
      clear hgc r0 m0 K0 he c0_ c1_ c2_ c3_ c4_ c5_ c6_ hb
      generalize wr.alloc (.cells #[.int .i64 x.who, .int .i64 x.leaf, .string x.entry.topic, .int .i64 x.entry.index, .int .i64 x.entry.time, .string x.entry.key, .string x.entry.body] 161) = w1 at *
      have S3r := Lib.hid (fun (w2 : World) (h : Ext w1 w2) => (S3.out.ext (he1.out.next h)).reads)
      have R3 := Lib.hid (fun (w2 : World) (h : Ext w1 w2) => (K1.out.ext h).cell 3)
      have RC := Lib.hid (fun (w2 : World) (h : Ext w1 w2) (j : Nat) => (KC.out.ext h).cell j)
      have la := Nat.le_trans (givenTo_len d.scanned p x.entry.topic) (by decide : 200 ≤ 1048576)
      have lb := Nat.le_trans (givenTo_len d.scanned q x.entry.topic) (by decide : 200 ≤ 1048576)
      have LA := Lib.hid la; have LB := Lib.hid lb; clear la lb
      obtain ⟨fa, hfa⟩ : ∃ fa, fa = givenTo d.scanned p x.entry.topic := ⟨_, rfl⟩
      obtain ⟨fb, hfb⟩ : ∃ fb, fb = givenTo d.scanned q x.entry.topic := ⟨_, rfl⟩
      have HG1 := Lib.hid (fun (w2 : World) (h : Ext w1 w2) => specGivenTo_any (some ⟨b, off, none⟩) c3 d.scanned p x.entry.topic w2 (S3r.out w2 h) hl)
      have HG2 := Lib.hid (fun (w2 : World) (h : Ext w1 w2) => specGivenTo_any (some ⟨b, off, none⟩) c3 d.scanned q x.entry.topic w2 (S3r.out w2 h) hl)
      rw [← hfa] at LA HG1
      rw [← hfb] at LB HG2
      have HP : Hid (storyAt d.scanned p q x = prefixB fa fb) := Lib.hid (by rw [hfa, hfb, storyAt, W1.out]; rfl)
      clear hfa hfb
      cases b5 : prefixB fa fb
      case false =>
        have E := Lib.hid (HN.out k x Hxl.out (by rw [HP.out, b5]))
        refine wp_region_held_drew (S := fun w' => w'.cell? ⟨g, 3, none⟩ = some (.slice (some ⟨b, off, none⟩) d.scanned.length c3) ∧ w'.cell? ⟨gc, 0, none⟩ = some (.int .i64 x.who) ∧ w'.cell? ⟨gc, 2, none⟩ = some (.string x.entry.topic) ∧ Ext w1 w') (by kernel_rfl) (by have z0 : Ext w1 w1.drew := ⟨rfl, rfl, rfl, Nat.le_refl _, fun _ _ => rfl⟩; exact ⟨R3.out _ z0, RC.out _ z0 0, RC.out _ z0 2, z0⟩) (fun hHeld => ?_)
        refine wpAnyH_take (i := 0) (oi := _) (v := ?v1) rfl (by kernel_rfl) (by kernel_rfl) (by kernel_rfl) (fun _ _ _ h => h) (Or.inl ⟨by first | (go_simp; done) | rfl, ?hy1⟩) hHeld ?rest1
        case hy1 => (intro w9 h9; (try dsimp only at h9); go_split_ands; go_simp; (try with_reducible rfl))
        case rest1 =>
          (try simp only [Act.put, List.setIfInBounds_toArray, List.set_cons_zero, List.set_cons_succ])
          refine wpAnyH_take (i := 1) (oi := _) (v := ?v2) rfl (by kernel_rfl) (by kernel_rfl) (by kernel_rfl) (fun _ _ _ h => h) (Or.inl ⟨by first | (go_simp; done) | rfl, ?hy2⟩) hHeld ?rest2
          case hy2 => (intro w9 h9; (try dsimp only at h9); go_split_ands; go_simp; (try with_reducible rfl))
          case rest2 =>
            (try simp only [Act.put, List.setIfInBounds_toArray, List.set_cons_zero, List.set_cons_succ])
            refine wpAnyH_take (i := 2) (oi := _) (v := ?v3) rfl (by kernel_rfl) (by kernel_rfl) (by kernel_rfl) (fun _ _ _ h => h) (Or.inl ⟨by first | (go_simp; done) | rfl, ?hy3⟩) hHeld ?rest3
            case hy3 => (intro w9 h9; (try dsimp only at h9); go_split_ands; go_simp; (try with_reducible rfl))
            case rest3 =>
              (try simp only [Act.put, List.setIfInBounds_toArray, List.set_cons_zero, List.set_cons_succ])
              refine wpAnyH_take (i := 3) (oi := _) (v := ?v4) rfl (by kernel_rfl) (by kernel_rfl) (by kernel_rfl) (fun _ _ _ h => h) (Or.inl ⟨by first | (go_simp; done) | rfl, ?hy4⟩) hHeld ?rest4
              case hy4 => (intro w9 h9; (try dsimp only at h9); go_split_ands; go_simp; (try with_reducible rfl))
              case rest4 =>
                (try simp only [Act.put, List.setIfInBounds_toArray, List.set_cons_zero, List.set_cons_succ])
                refine wpAnyH_take (i := 4) (oi := _) (v := ?v5) rfl (by kernel_rfl) (by kernel_rfl) (by kernel_rfl) (fun _ _ _ h => h) (Or.inl ⟨by first | (go_simp; done) | rfl, ?hy5⟩) hHeld ?rest5
                case hy5 => (intro w9 h9; (try dsimp only at h9); go_split_ands; go_simp; (try with_reducible rfl))
                case rest5 =>
                  (try simp only [Act.put, List.setIfInBounds_toArray, List.set_cons_zero, List.set_cons_succ])
                  refine wpAnyH_take (i := 5) (oi := _) (v := undef) rfl (by kernel_rfl) (by kernel_rfl) (by kernel_rfl) (fun _ _ _ h => h) (Or.inr ⟨by go_simp, rfl⟩) hHeld ?_
                  (try simp only [Act.put, List.setIfInBounds_toArray, List.set_cons_zero, List.set_cons_succ])
                  refine wpAnyH_take (i := 6) (oi := _) (v := undef) rfl (by kernel_rfl) (by kernel_rfl) (by kernel_rfl) (fun _ _ _ h => h) (Or.inr ⟨by go_simp, rfl⟩) hHeld ?_
                  (try simp only [Act.put, List.setIfInBounds_toArray, List.set_cons_zero, List.set_cons_succ])
                  refine wpAnyH_take (i := 7) (oi := _) (v := undef) rfl (by kernel_rfl) (by kernel_rfl) (by kernel_rfl) (fun _ _ _ h => h) (Or.inr ⟨by go_simp, rfl⟩) hHeld ?_
                  (try simp only [Act.put, List.setIfInBounds_toArray, List.set_cons_zero, List.set_cons_succ])
                  refine wpAnyH_take (i := 8) (oi := _) (v := undef) rfl (by kernel_rfl) (by kernel_rfl) (by kernel_rfl) (fun _ _ _ h => h) (Or.inr ⟨by go_simp, rfl⟩) hHeld ?_
                  (try simp only [Act.put, List.setIfInBounds_toArray, List.set_cons_zero, List.set_cons_succ])
                  refine wpAnyH_take (i := 9) (oi := _) (v := ?v6) rfl (by kernel_rfl) (by kernel_rfl) (by kernel_rfl) (fun _ _ _ h => h) (Or.inl ⟨by first | (go_simp; done) | rfl, ?hy6⟩) hHeld ?rest6
                  case hy6 => (intro w9 h9; (try dsimp only at h9); go_split_ands; go_simp; (try with_reducible rfl))
                  case rest6 =>
                    (try simp only [Act.put, List.setIfInBounds_toArray, List.set_cons_zero, List.set_cons_succ])
                    refine wpAnyH_take (i := 10) (oi := _) (v := ?v7) rfl (by kernel_rfl) (by kernel_rfl) (by kernel_rfl) (fun _ _ _ h => h) (Or.inl ⟨by first | (go_simp; done) | rfl, ?hy7⟩) hHeld ?rest7
                    case hy7 => (intro w9 h9; (try dsimp only at h9); go_split_ands; go_simp; (try with_reducible rfl))
                    case rest7 =>
                      (try simp only [Act.put, List.setIfInBounds_toArray, List.set_cons_zero, List.set_cons_succ])
                      refine wpAnyH_take (i := 11) (oi := _) (v := ?v8) rfl (by kernel_rfl) (by kernel_rfl) (by kernel_rfl) (fun _ _ _ h => h) (Or.inl ⟨by first | (go_simp; done) | rfl, ?hy8⟩) hHeld ?rest8
                      case hy8 => (intro w9 h9; (try dsimp only at h9); go_split_ands; go_simp; (try with_reducible rfl))
                      case rest8 =>
                        (try simp only [Act.put, List.setIfInBounds_toArray, List.set_cons_zero, List.set_cons_succ])
                        refine wpAnyH_take (i := 12) (oi := _) (v := ?v9) rfl (by kernel_rfl) (by kernel_rfl) (by kernel_rfl) (fun _ _ _ h => h) (Or.inl ⟨by first | (go_simp; done) | rfl, ?hy9⟩) hHeld ?rest9
                        case hy9 => (intro w9 h9; (try dsimp only at h9); go_split_ands; go_simp; (try with_reducible rfl))
                        case rest9 =>
                          (try simp only [Act.put, List.setIfInBounds_toArray, List.set_cons_zero, List.set_cons_succ])
                          refine wpAnyH_take (i := 13) (oi := _) (v := ?v10) rfl (by kernel_rfl) (by kernel_rfl) (by kernel_rfl) (fun _ _ _ h => h) (Or.inl ⟨by first | (go_simp; done) | rfl, ?hy10⟩) hHeld ?rest10
                          case hy10 => (intro w9 h9; (try dsimp only at h9); go_split_ands; go_simp; (try with_reducible rfl))
                          case rest10 =>
                            (try simp only [Act.put, List.setIfInBounds_toArray, List.set_cons_zero, List.set_cons_succ])
                            refine wpAnyH_take (i := 14) (oi := _) (v := ?v11) rfl (by kernel_rfl) (by kernel_rfl) (by kernel_rfl) (fun _ _ _ h => h) (Or.inl ⟨by first | (go_simp; done) | rfl, ?hy11⟩) hHeld ?rest11
                            case hy11 => (intro w9 h9; (try dsimp only at h9); go_split_ands; go_simp; (try with_reducible rfl))
                            case rest11 =>
                              (try simp only [Act.put, List.setIfInBounds_toArray, List.set_cons_zero, List.set_cons_succ])
                              refine wpAnyH_take (i := 15) (oi := _) (v := ?v12) rfl (by kernel_rfl) (by kernel_rfl) (by kernel_rfl) (fun _ _ _ h => h) (Or.inl ⟨by first | (go_simp; done) | rfl, ?hy12⟩) hHeld ?rest12
                              case hy12 => (intro w9 h9; (try dsimp only at h9); go_split_ands; go_simp; (try with_reducible rfl))
                              case rest12 =>
                                (try simp only [Act.put, List.setIfInBounds_toArray, List.set_cons_zero, List.set_cons_succ])
                                refine wpAnyH_take (i := 16) (oi := _) (v := ?v13) rfl (by kernel_rfl) (by kernel_rfl) (by kernel_rfl) (fun _ _ _ h => h) (Or.inl ⟨by first | (go_simp; done) | rfl, ?hy13⟩) hHeld ?rest13
                                case hy13 => (intro w9 h9; (try dsimp only at h9); go_split_ands; go_simp; (try with_reducible rfl))
                                case rest13 =>
                                  (try simp only [Act.put, List.setIfInBounds_toArray, List.set_cons_zero, List.set_cons_succ])
                                  refine wpAnyH_take (i := 18) (oi := _) (v := ?v14) rfl (by kernel_rfl) (by kernel_rfl) (by kernel_rfl) (fun _ _ _ h => h) (Or.inl ⟨by first | (go_simp; done) | rfl, ?hy14⟩) hHeld ?rest14
                                  case hy14 => (intro w9 h9; (try dsimp only at h9); go_split_ands; go_simp; (try with_reducible rfl))
                                  case rest14 =>
                                    (try simp only [Act.put, List.setIfInBounds_toArray, List.set_cons_zero, List.set_cons_succ])
                                    refine wpAnyH_take (i := 19) (oi := _) (v := ?v15) rfl (by kernel_rfl) (by kernel_rfl) (by kernel_rfl) (fun _ _ _ h => h) (Or.inl ⟨by first | (go_simp; done) | rfl, ?hy15⟩) hHeld ?rest15
                                    case hy15 => (intro w9 h9; (try dsimp only at h9); go_split_ands; go_simp; (try with_reducible rfl))
                                    case rest15 =>
                                      (try simp only [Act.put, List.setIfInBounds_toArray, List.set_cons_zero, List.set_cons_succ])
                                      refine wpAnyH_take (i := 20) (oi := _) (v := ?v16) rfl (by kernel_rfl) (by kernel_rfl) (by kernel_rfl) (fun _ _ _ h => h) (Or.inl ⟨by first | (go_simp; done) | rfl, ?hy16⟩) hHeld ?rest16
                                      case hy16 => (intro w9 h9; (try dsimp only at h9); go_split_ands; go_simp; (try with_reducible rfl))
                                      case rest16 =>
                                        (try simp only [Act.put, List.setIfInBounds_toArray, List.set_cons_zero, List.set_cons_succ])
                                        refine wpAnyH_take (i := 21) (oi := _) (v := ?v17) rfl (by kernel_rfl) (by kernel_rfl) (by kernel_rfl) (fun _ _ _ h => h) (Or.inl ⟨by first | (go_simp; done) | rfl, ?hy17⟩) hHeld ?rest17
                                        case hy17 => (intro w9 h9; (try dsimp only at h9); go_split_ands; go_simp; (try with_reducible rfl))
                                        case rest17 =>
                                          (try simp only [Act.put, List.setIfInBounds_toArray, List.set_cons_zero, List.set_cons_succ])
                                          refine wpAnyH_take (i := 22) (oi := _) (v := ?v18) rfl (by kernel_rfl) (by kernel_rfl) (by kernel_rfl) (fun _ _ _ h => h) (Or.inl ⟨by first | (go_simp; done) | rfl, ?hy18⟩) hHeld ?rest18
                                          case hy18 => (intro w9 h9; (try dsimp only at h9); go_split_ands; go_simp; (try with_reducible rfl))
                                          case rest18 =>
                                            (try simp only [Act.put, List.setIfInBounds_toArray, List.set_cons_zero, List.set_cons_succ])
                                            refine wpAnyH_take (i := 23) (oi := _) (v := ?v19) rfl (by kernel_rfl) (by kernel_rfl) (by kernel_rfl) (fun _ _ _ h => h) (Or.inl ⟨by first | (go_simp; done) | rfl, ?hy19⟩) hHeld ?rest19
                                            case hy19 => (intro w9 h9; (try dsimp only at h9); go_split_ands; go_simp; (try with_reducible rfl))
                                            case rest19 =>
                                              (try simp only [Act.put, List.setIfInBounds_toArray, List.set_cons_zero, List.set_cons_succ])
                                              refine wpAnyH_ready (rs := [17]) (by kernel_rfl) (by simp) ?_
                                              refine AllReadyH.cons (o := _) rfl (fun K hK => ?_) AllReadyH.nil
                                              · go_simp
                                                refine (HG1.out _ hHeld.2.2.2).mono ?_
                                                rintro e w2 ⟨va, rfl, oa, h1⟩
                                                (try go_wp2_with fail)
                                                have z1 := Ext.next hHeld.2.2.2 h1
                                                refine hK.out _ _ ⟨R3.out _ z1, RC.out _ z1 0, RC.out _ z1 2, z1⟩ (fun hH2 => ?_)
                                                clear hK K
                                                (try simp only [Act.put, List.setIfInBounds_toArray, List.set_cons_zero, List.set_cons_succ])
                                                refine wpAnyH_ready (rs := [24]) (by kernel_rfl) (by simp) ?_
                                                refine AllReadyH.cons (o := _) rfl (fun K hK => ?_) AllReadyH.nil
                                                go_simp
                                                refine (HG2.out _ z1).mono ?_
                                                rintro e w3 ⟨vb, rfl, ob, h2⟩
                                                replace oa := oa.ext h2
                                                (try go_wp2_with fail)
                                                replace z1 := z1.next h2
                                                clear h1
                                                refine hK.out _ _ ⟨R3.out _ z1, RC.out _ z1 0, RC.out _ z1 2, z1⟩ (fun hH3 => ?_)
                                                clear hK K
                                                (try simp only [Act.put, List.setIfInBounds_toArray, List.set_cons_zero, List.set_cons_succ])
                                                refine wpAnyH_ready (rs := [25]) (by kernel_rfl) (by simp) ?_
                                                obtain ⟨Ya, ya, rfl, oa2⟩ := oa.slf
                                                obtain ⟨Yb, yb, rfl, ob2⟩ := ob.slf
                                                refine AllReadyH.cons (o := _) rfl (fun K hK => ?_) AllReadyH.nil
                                                go_simp
                                                refine (specPrefixOf_any Ya Yb ya yb fa fb _ oa2.reads ob2.reads LA.out LB.out).mono ?_
                                                rintro e w4 ⟨e1, h3⟩
                                                rw [b5] at e1
                                                subst e1
                                                (try go_wp2_with fail)
                                                replace z1 := z1.next h3
                                                refine hK.out _ _ ⟨R3.out _ z1, RC.out _ z1 0, RC.out _ z1 2, z1⟩ (fun hH4 => ?_)
                                                clear hK K
                                                (try simp only [Act.put, List.setIfInBounds_toArray, List.set_cons_zero, List.set_cons_succ])
                                                refine wpAnyH_take (i := 26) (oi := _) (v := ?v20) rfl (by kernel_rfl) (by kernel_rfl) (by kernel_rfl) (fun _ _ _ h => h) (Or.inl ⟨by first | (go_simp; done) | rfl, ?hy20⟩) hH4 ?rest20
                                                case hy20 => (intro w9 h9; (try dsimp only at h9); go_split_ands; go_simp; (try with_reducible rfl))
                                                case rest20 =>
                                                  (try simp only [Act.put, List.setIfInBounds_toArray, List.set_cons_zero, List.set_cons_succ])
                                                  refine wpAnyH_take (i := 27) (oi := _) (v := ?v21) rfl (by kernel_rfl) (by kernel_rfl) (by kernel_rfl) (fun _ _ _ h => h) (Or.inl ⟨by first | (go_simp; done) | rfl, ?hy21⟩) hH4 ?rest21
                                                  case hy21 => (intro w9 h9; (try dsimp only at h9); go_split_ands; go_simp; (try with_reducible rfl))
                                                  case rest21 =>
                                                    (try simp only [Act.put, List.setIfInBounds_toArray, List.set_cons_zero, List.set_cons_succ])
                                                    refine wpAnyH_done (by kernel_rfl) ?_ _
                                                    go_wp2_with fail
                                                    go_ret
                                                    exact ⟨ret_bool E.out.symm, he1.out.next z1⟩
      case true =>
        have N := Lib.hid (KS.out.next Hxl.out (by rw [HP.out, b5]))
        refine wp_region_held_drew (S := fun w' => w'.cell? ⟨g, 3, none⟩ = some (.slice (some ⟨b, off, none⟩) d.scanned.length c3) ∧ w'.cell? ⟨gc, 0, none⟩ = some (.int .i64 x.who) ∧ w'.cell? ⟨gc, 2, none⟩ = some (.string x.entry.topic) ∧ Ext w1 w') (by kernel_rfl) (by have z0 : Ext w1 w1.drew := ⟨rfl, rfl, rfl, Nat.le_refl _, fun _ _ => rfl⟩; exact ⟨R3.out _ z0, RC.out _ z0 0, RC.out _ z0 2, z0⟩) (fun hHeld => ?_)
        refine wpAnyH_take (i := 0) (oi := _) (v := ?v22) rfl (by kernel_rfl) (by kernel_rfl) (by kernel_rfl) (fun _ _ _ h => h) (Or.inl ⟨by first | (go_simp; done) | rfl, ?hy22⟩) hHeld ?rest22
        case hy22 => (intro w9 h9; (try dsimp only at h9); go_split_ands; go_simp; (try with_reducible rfl))
        case rest22 =>
          (try simp only [Act.put, List.setIfInBounds_toArray, List.set_cons_zero, List.set_cons_succ])
          refine wpAnyH_take (i := 1) (oi := _) (v := ?v23) rfl (by kernel_rfl) (by kernel_rfl) (by kernel_rfl) (fun _ _ _ h => h) (Or.inl ⟨by first | (go_simp; done) | rfl, ?hy23⟩) hHeld ?rest23
          case hy23 => (intro w9 h9; (try dsimp only at h9); go_split_ands; go_simp; (try with_reducible rfl))
          case rest23 =>
            (try simp only [Act.put, List.setIfInBounds_toArray, List.set_cons_zero, List.set_cons_succ])
            refine wpAnyH_take (i := 2) (oi := _) (v := ?v24) rfl (by kernel_rfl) (by kernel_rfl) (by kernel_rfl) (fun _ _ _ h => h) (Or.inl ⟨by first | (go_simp; done) | rfl, ?hy24⟩) hHeld ?rest24
            case hy24 => (intro w9 h9; (try dsimp only at h9); go_split_ands; go_simp; (try with_reducible rfl))
            case rest24 =>
              (try simp only [Act.put, List.setIfInBounds_toArray, List.set_cons_zero, List.set_cons_succ])
              refine wpAnyH_take (i := 3) (oi := _) (v := ?v25) rfl (by kernel_rfl) (by kernel_rfl) (by kernel_rfl) (fun _ _ _ h => h) (Or.inl ⟨by first | (go_simp; done) | rfl, ?hy25⟩) hHeld ?rest25
              case hy25 => (intro w9 h9; (try dsimp only at h9); go_split_ands; go_simp; (try with_reducible rfl))
              case rest25 =>
                (try simp only [Act.put, List.setIfInBounds_toArray, List.set_cons_zero, List.set_cons_succ])
                refine wpAnyH_take (i := 4) (oi := _) (v := ?v26) rfl (by kernel_rfl) (by kernel_rfl) (by kernel_rfl) (fun _ _ _ h => h) (Or.inl ⟨by first | (go_simp; done) | rfl, ?hy26⟩) hHeld ?rest26
                case hy26 => (intro w9 h9; (try dsimp only at h9); go_split_ands; go_simp; (try with_reducible rfl))
                case rest26 =>
                  (try simp only [Act.put, List.setIfInBounds_toArray, List.set_cons_zero, List.set_cons_succ])
                  refine wpAnyH_take (i := 5) (oi := _) (v := undef) rfl (by kernel_rfl) (by kernel_rfl) (by kernel_rfl) (fun _ _ _ h => h) (Or.inr ⟨by go_simp, rfl⟩) hHeld ?_
                  (try simp only [Act.put, List.setIfInBounds_toArray, List.set_cons_zero, List.set_cons_succ])
                  refine wpAnyH_take (i := 6) (oi := _) (v := undef) rfl (by kernel_rfl) (by kernel_rfl) (by kernel_rfl) (fun _ _ _ h => h) (Or.inr ⟨by go_simp, rfl⟩) hHeld ?_
                  (try simp only [Act.put, List.setIfInBounds_toArray, List.set_cons_zero, List.set_cons_succ])
                  refine wpAnyH_take (i := 7) (oi := _) (v := undef) rfl (by kernel_rfl) (by kernel_rfl) (by kernel_rfl) (fun _ _ _ h => h) (Or.inr ⟨by go_simp, rfl⟩) hHeld ?_
                  (try simp only [Act.put, List.setIfInBounds_toArray, List.set_cons_zero, List.set_cons_succ])
                  refine wpAnyH_take (i := 8) (oi := _) (v := undef) rfl (by kernel_rfl) (by kernel_rfl) (by kernel_rfl) (fun _ _ _ h => h) (Or.inr ⟨by go_simp, rfl⟩) hHeld ?_
                  (try simp only [Act.put, List.setIfInBounds_toArray, List.set_cons_zero, List.set_cons_succ])
                  refine wpAnyH_take (i := 9) (oi := _) (v := ?v27) rfl (by kernel_rfl) (by kernel_rfl) (by kernel_rfl) (fun _ _ _ h => h) (Or.inl ⟨by first | (go_simp; done) | rfl, ?hy27⟩) hHeld ?rest27
                  case hy27 => (intro w9 h9; (try dsimp only at h9); go_split_ands; go_simp; (try with_reducible rfl))
                  case rest27 =>
                    (try simp only [Act.put, List.setIfInBounds_toArray, List.set_cons_zero, List.set_cons_succ])
                    refine wpAnyH_take (i := 10) (oi := _) (v := ?v28) rfl (by kernel_rfl) (by kernel_rfl) (by kernel_rfl) (fun _ _ _ h => h) (Or.inl ⟨by first | (go_simp; done) | rfl, ?hy28⟩) hHeld ?rest28
                    case hy28 => (intro w9 h9; (try dsimp only at h9); go_split_ands; go_simp; (try with_reducible rfl))
                    case rest28 =>
                      (try simp only [Act.put, List.setIfInBounds_toArray, List.set_cons_zero, List.set_cons_succ])
                      refine wpAnyH_take (i := 11) (oi := _) (v := ?v29) rfl (by kernel_rfl) (by kernel_rfl) (by kernel_rfl) (fun _ _ _ h => h) (Or.inl ⟨by first | (go_simp; done) | rfl, ?hy29⟩) hHeld ?rest29
                      case hy29 => (intro w9 h9; (try dsimp only at h9); go_split_ands; go_simp; (try with_reducible rfl))
                      case rest29 =>
                        (try simp only [Act.put, List.setIfInBounds_toArray, List.set_cons_zero, List.set_cons_succ])
                        refine wpAnyH_take (i := 12) (oi := _) (v := ?v30) rfl (by kernel_rfl) (by kernel_rfl) (by kernel_rfl) (fun _ _ _ h => h) (Or.inl ⟨by first | (go_simp; done) | rfl, ?hy30⟩) hHeld ?rest30
                        case hy30 => (intro w9 h9; (try dsimp only at h9); go_split_ands; go_simp; (try with_reducible rfl))
                        case rest30 =>
                          (try simp only [Act.put, List.setIfInBounds_toArray, List.set_cons_zero, List.set_cons_succ])
                          refine wpAnyH_take (i := 13) (oi := _) (v := ?v31) rfl (by kernel_rfl) (by kernel_rfl) (by kernel_rfl) (fun _ _ _ h => h) (Or.inl ⟨by first | (go_simp; done) | rfl, ?hy31⟩) hHeld ?rest31
                          case hy31 => (intro w9 h9; (try dsimp only at h9); go_split_ands; go_simp; (try with_reducible rfl))
                          case rest31 =>
                            (try simp only [Act.put, List.setIfInBounds_toArray, List.set_cons_zero, List.set_cons_succ])
                            refine wpAnyH_take (i := 14) (oi := _) (v := ?v32) rfl (by kernel_rfl) (by kernel_rfl) (by kernel_rfl) (fun _ _ _ h => h) (Or.inl ⟨by first | (go_simp; done) | rfl, ?hy32⟩) hHeld ?rest32
                            case hy32 => (intro w9 h9; (try dsimp only at h9); go_split_ands; go_simp; (try with_reducible rfl))
                            case rest32 =>
                              (try simp only [Act.put, List.setIfInBounds_toArray, List.set_cons_zero, List.set_cons_succ])
                              refine wpAnyH_take (i := 15) (oi := _) (v := ?v33) rfl (by kernel_rfl) (by kernel_rfl) (by kernel_rfl) (fun _ _ _ h => h) (Or.inl ⟨by first | (go_simp; done) | rfl, ?hy33⟩) hHeld ?rest33
                              case hy33 => (intro w9 h9; (try dsimp only at h9); go_split_ands; go_simp; (try with_reducible rfl))
                              case rest33 =>
                                (try simp only [Act.put, List.setIfInBounds_toArray, List.set_cons_zero, List.set_cons_succ])
                                refine wpAnyH_take (i := 16) (oi := _) (v := ?v34) rfl (by kernel_rfl) (by kernel_rfl) (by kernel_rfl) (fun _ _ _ h => h) (Or.inl ⟨by first | (go_simp; done) | rfl, ?hy34⟩) hHeld ?rest34
                                case hy34 => (intro w9 h9; (try dsimp only at h9); go_split_ands; go_simp; (try with_reducible rfl))
                                case rest34 =>
                                  (try simp only [Act.put, List.setIfInBounds_toArray, List.set_cons_zero, List.set_cons_succ])
                                  refine wpAnyH_take (i := 18) (oi := _) (v := ?v35) rfl (by kernel_rfl) (by kernel_rfl) (by kernel_rfl) (fun _ _ _ h => h) (Or.inl ⟨by first | (go_simp; done) | rfl, ?hy35⟩) hHeld ?rest35
                                  case hy35 => (intro w9 h9; (try dsimp only at h9); go_split_ands; go_simp; (try with_reducible rfl))
                                  case rest35 =>
                                    (try simp only [Act.put, List.setIfInBounds_toArray, List.set_cons_zero, List.set_cons_succ])
                                    refine wpAnyH_take (i := 19) (oi := _) (v := ?v36) rfl (by kernel_rfl) (by kernel_rfl) (by kernel_rfl) (fun _ _ _ h => h) (Or.inl ⟨by first | (go_simp; done) | rfl, ?hy36⟩) hHeld ?rest36
                                    case hy36 => (intro w9 h9; (try dsimp only at h9); go_split_ands; go_simp; (try with_reducible rfl))
                                    case rest36 =>
                                      (try simp only [Act.put, List.setIfInBounds_toArray, List.set_cons_zero, List.set_cons_succ])
                                      refine wpAnyH_take (i := 20) (oi := _) (v := ?v37) rfl (by kernel_rfl) (by kernel_rfl) (by kernel_rfl) (fun _ _ _ h => h) (Or.inl ⟨by first | (go_simp; done) | rfl, ?hy37⟩) hHeld ?rest37
                                      case hy37 => (intro w9 h9; (try dsimp only at h9); go_split_ands; go_simp; (try with_reducible rfl))
                                      case rest37 =>
                                        (try simp only [Act.put, List.setIfInBounds_toArray, List.set_cons_zero, List.set_cons_succ])
                                        refine wpAnyH_take (i := 21) (oi := _) (v := ?v38) rfl (by kernel_rfl) (by kernel_rfl) (by kernel_rfl) (fun _ _ _ h => h) (Or.inl ⟨by first | (go_simp; done) | rfl, ?hy38⟩) hHeld ?rest38
                                        case hy38 => (intro w9 h9; (try dsimp only at h9); go_split_ands; go_simp; (try with_reducible rfl))
                                        case rest38 =>
                                          (try simp only [Act.put, List.setIfInBounds_toArray, List.set_cons_zero, List.set_cons_succ])
                                          refine wpAnyH_take (i := 22) (oi := _) (v := ?v39) rfl (by kernel_rfl) (by kernel_rfl) (by kernel_rfl) (fun _ _ _ h => h) (Or.inl ⟨by first | (go_simp; done) | rfl, ?hy39⟩) hHeld ?rest39
                                          case hy39 => (intro w9 h9; (try dsimp only at h9); go_split_ands; go_simp; (try with_reducible rfl))
                                          case rest39 =>
                                            (try simp only [Act.put, List.setIfInBounds_toArray, List.set_cons_zero, List.set_cons_succ])
                                            refine wpAnyH_take (i := 23) (oi := _) (v := ?v40) rfl (by kernel_rfl) (by kernel_rfl) (by kernel_rfl) (fun _ _ _ h => h) (Or.inl ⟨by first | (go_simp; done) | rfl, ?hy40⟩) hHeld ?rest40
                                            case hy40 => (intro w9 h9; (try dsimp only at h9); go_split_ands; go_simp; (try with_reducible rfl))
                                            case rest40 =>
                                              (try simp only [Act.put, List.setIfInBounds_toArray, List.set_cons_zero, List.set_cons_succ])
                                              refine wpAnyH_ready (rs := [17]) (by kernel_rfl) (by simp) ?_
                                              refine AllReadyH.cons (o := _) rfl (fun K hK => ?_) AllReadyH.nil
                                              · go_simp
                                                refine (HG1.out _ hHeld.2.2.2).mono ?_
                                                rintro e w2 ⟨va, rfl, oa, h1⟩
                                                (try go_wp2_with fail)
                                                have z1 := Ext.next hHeld.2.2.2 h1
                                                refine hK.out _ _ ⟨R3.out _ z1, RC.out _ z1 0, RC.out _ z1 2, z1⟩ (fun hH2 => ?_)
                                                clear hK K
                                                (try simp only [Act.put, List.setIfInBounds_toArray, List.set_cons_zero, List.set_cons_succ])
                                                refine wpAnyH_ready (rs := [24]) (by kernel_rfl) (by simp) ?_
                                                refine AllReadyH.cons (o := _) rfl (fun K hK => ?_) AllReadyH.nil
                                                go_simp
                                                refine (HG2.out _ z1).mono ?_
                                                rintro e w3 ⟨vb, rfl, ob, h2⟩
                                                replace oa := oa.ext h2
                                                (try go_wp2_with fail)
                                                replace z1 := z1.next h2
                                                clear h1
                                                refine hK.out _ _ ⟨R3.out _ z1, RC.out _ z1 0, RC.out _ z1 2, z1⟩ (fun hH3 => ?_)
                                                clear hK K
                                                (try simp only [Act.put, List.setIfInBounds_toArray, List.set_cons_zero, List.set_cons_succ])
                                                refine wpAnyH_ready (rs := [25]) (by kernel_rfl) (by simp) ?_
                                                obtain ⟨Ya, ya, rfl, oa2⟩ := oa.slf
                                                obtain ⟨Yb, yb, rfl, ob2⟩ := ob.slf
                                                refine AllReadyH.cons (o := _) rfl (fun K hK => ?_) AllReadyH.nil
                                                go_simp
                                                refine (specPrefixOf_any Ya Yb ya yb fa fb _ oa2.reads ob2.reads LA.out LB.out).mono ?_
                                                rintro e w4 ⟨e1, h3⟩
                                                rw [b5] at e1
                                                subst e1
                                                (try go_wp2_with fail)
                                                replace z1 := z1.next h3
                                                refine hK.out _ _ ⟨R3.out _ z1, RC.out _ z1 0, RC.out _ z1 2, z1⟩ (fun hH4 => ?_)
                                                clear hK K
                                                (try simp only [Act.put, List.setIfInBounds_toArray, List.set_cons_zero, List.set_cons_succ])
                                                refine wpAnyH_take (i := 26) (oi := _) (v := ?v41) rfl (by kernel_rfl) (by kernel_rfl) (by kernel_rfl) (fun _ _ _ h => h) (Or.inl ⟨by first | (go_simp; done) | rfl, ?hy41⟩) hH4 ?rest41
                                                case hy41 => (intro w9 h9; (try dsimp only at h9); go_split_ands; go_simp; (try with_reducible rfl))
                                                case rest41 =>
                                                  (try simp only [Act.put, List.setIfInBounds_toArray, List.set_cons_zero, List.set_cons_succ])
                                                  refine wpAnyH_take (i := 27) (oi := _) (v := ?v42) rfl (by kernel_rfl) (by kernel_rfl) (by kernel_rfl) (fun _ _ _ h => h) (Or.inl ⟨by first | (go_simp; done) | rfl, ?hy42⟩) hH4 ?rest42
                                                  case hy42 => (intro w9 h9; (try dsimp only at h9); go_split_ands; go_simp; (try with_reducible rfl))
                                                  case rest42 =>
                                                    (try simp only [Act.put, List.setIfInBounds_toArray, List.set_cons_zero, List.set_cons_succ])
                                                    refine wpAnyH_done (by kernel_rfl) ?_ _
                                                    go_wp2_with fail
                                                    go_roundw
                                                    case rel => exact ⟨k + 1, by omega, by go_num, N.out, K1.out.ext z1, he1.out.next z1⟩
                                                    case measure => simp [intOf]; omega
    case true.true =>
      have W1 : Hid (isOne x p q = true) := Lib.hid (by simp only [isOne, b1, b2]; rfl)
      have b1n : (x.who != p) = !(x.who == p) := rfl
      have b2n : (x.who != q) = !(x.who == q) := rfl
      rw [b1] at b1n
      rw [b2] at b2n
      simp only [Bool.not_true, Bool.not_false] at b1n b2n
      have KC := Lib.hid (Blk.new wr 161 #[.int .i64 x.who, .int .i64 x.leaf, .string x.entry.topic, .int .i64 x.entry.index, .int .i64 x.entry.time, .string x.entry.key, .string x.entry.body])
      have K1 := Lib.hid (K0.alloc (.cells #[.int .i64 x.who, .int .i64 x.leaf, .string x.entry.topic, .int .i64 x.entry.index, .int .i64 x.entry.time, .string x.entry.key, .string x.entry.body] 161))
      have he1 := Lib.hid (he.new (.cells #[.int .i64 x.who, .int .i64 x.leaf, .string x.entry.topic, .int .i64 x.entry.index, .int .i64 x.entry.time, .string x.entry.key, .string x.entry.body] 161))
      have lw : g < wr.heap.size := K0.lt
      go_wp2_with (go_at_call 93; refine (l23Small_any _ _ _ _).mono ?_; rintro e w' ⟨rfl, rfl⟩)
      obtain ⟨gc, hgc⟩ : ∃ gc, gc = wr.heap.size := ⟨_, rfl⟩
      rw [← hgc] at KC
      (try rw [← hgc])
      clear hgc r0 m0 K0 he c0_ c1_ c2_ c3_ c4_ c5_ c6_ hb
      generalize wr.alloc (.cells #[.int .i64 x.who, .int .i64 x.leaf, .string x.entry.topic, .int .i64 x.entry.index, .int .i64 x.entry.time, .string x.entry.key, .string x.entry.body] 161) = w1 at *
      have S3r := Lib.hid (fun (w2 : World) (h : Ext w1 w2) => (S3.out.ext (he1.out.next h)).reads)
      have R3 := Lib.hid (fun (w2 : World) (h : Ext w1 w2) => (K1.out.ext h).cell 3)
      have RC := Lib.hid (fun (w2 : World) (h : Ext w1 w2) (j : Nat) => (KC.out.ext h).cell j)
      have la := Nat.le_trans (givenTo_len d.scanned p x.entry.topic) (by decide : 200 ≤ 1048576)
      have lb := Nat.le_trans (givenTo_len d.scanned q x.entry.topic) (by decide : 200 ≤ 1048576)
      have LA := Lib.hid la; have LB := Lib.hid lb; clear la lb
      obtain ⟨fa, hfa⟩ : ∃ fa, fa = givenTo d.scanned p x.entry.topic := ⟨_, rfl⟩
      obtain ⟨fb, hfb⟩ : ∃ fb, fb = givenTo d.scanned q x.entry.topic := ⟨_, rfl⟩
      have HG1 := Lib.hid (fun (w2 : World) (h : Ext w1 w2) => specGivenTo_any (some ⟨b, off, none⟩) c3 d.scanned p x.entry.topic w2 (S3r.out w2 h) hl)
      have HG2 := Lib.hid (fun (w2 : World) (h : Ext w1 w2) => specGivenTo_any (some ⟨b, off, none⟩) c3 d.scanned q x.entry.topic w2 (S3r.out w2 h) hl)
      rw [← hfa] at LA HG1
      rw [← hfb] at LB HG2
      have HP : Hid (storyAt d.scanned p q x = prefixB fa fb) := Lib.hid (by rw [hfa, hfb, storyAt, W1.out]; rfl)
      clear hfa hfb
      cases b5 : prefixB fa fb
      case false =>
        have E := Lib.hid (HN.out k x Hxl.out (by rw [HP.out, b5]))
        refine wp_region_held_drew (S := fun w' => w'.cell? ⟨g, 3, none⟩ = some (.slice (some ⟨b, off, none⟩) d.scanned.length c3) ∧ w'.cell? ⟨gc, 0, none⟩ = some (.int .i64 x.who) ∧ w'.cell? ⟨gc, 2, none⟩ = some (.string x.entry.topic) ∧ Ext w1 w') (by kernel_rfl) (by have z0 : Ext w1 w1.drew := ⟨rfl, rfl, rfl, Nat.le_refl _, fun _ _ => rfl⟩; exact ⟨R3.out _ z0, RC.out _ z0 0, RC.out _ z0 2, z0⟩) (fun hHeld => ?_)
        refine wpAnyH_take (i := 0) (oi := _) (v := ?v43) rfl (by kernel_rfl) (by kernel_rfl) (by kernel_rfl) (fun _ _ _ h => h) (Or.inl ⟨by first | (go_simp; done) | rfl, ?hy43⟩) hHeld ?rest43
        case hy43 => (intro w9 h9; (try dsimp only at h9); go_split_ands; go_simp; (try with_reducible rfl))
        case rest43 =>
          (try simp only [Act.put, List.setIfInBounds_toArray, List.set_cons_zero, List.set_cons_succ])
          refine wpAnyH_take (i := 1) (oi := _) (v := ?v44) rfl (by kernel_rfl) (by kernel_rfl) (by kernel_rfl) (fun _ _ _ h => h) (Or.inl ⟨by first | (go_simp; done) | rfl, ?hy44⟩) hHeld ?rest44
          case hy44 => (intro w9 h9; (try dsimp only at h9); go_split_ands; go_simp; (try with_reducible rfl))
          case rest44 =>
            (try simp only [Act.put, List.setIfInBounds_toArray, List.set_cons_zero, List.set_cons_succ])
            refine wpAnyH_take (i := 2) (oi := _) (v := ?v45) rfl (by kernel_rfl) (by kernel_rfl) (by kernel_rfl) (fun _ _ _ h => h) (Or.inl ⟨by first | (go_simp; done) | rfl, ?hy45⟩) hHeld ?rest45
            case hy45 => (intro w9 h9; (try dsimp only at h9); go_split_ands; go_simp; (try with_reducible rfl))
            case rest45 =>
              (try simp only [Act.put, List.setIfInBounds_toArray, List.set_cons_zero, List.set_cons_succ])
              refine wpAnyH_take (i := 3) (oi := _) (v := ?v46) rfl (by kernel_rfl) (by kernel_rfl) (by kernel_rfl) (fun _ _ _ h => h) (Or.inl ⟨by first | (go_simp; done) | rfl, ?hy46⟩) hHeld ?rest46
              case hy46 => (intro w9 h9; (try dsimp only at h9); go_split_ands; go_simp; (try with_reducible rfl))
              case rest46 =>
                (try simp only [Act.put, List.setIfInBounds_toArray, List.set_cons_zero, List.set_cons_succ])
                refine wpAnyH_take (i := 4) (oi := _) (v := ?v47) rfl (by kernel_rfl) (by kernel_rfl) (by kernel_rfl) (fun _ _ _ h => h) (Or.inl ⟨by first | (go_simp; done) | rfl, ?hy47⟩) hHeld ?rest47
                case hy47 => (intro w9 h9; (try dsimp only at h9); go_split_ands; go_simp; (try with_reducible rfl))
                case rest47 =>
                  (try simp only [Act.put, List.setIfInBounds_toArray, List.set_cons_zero, List.set_cons_succ])
                  refine wpAnyH_take (i := 5) (oi := _) (v := undef) rfl (by kernel_rfl) (by kernel_rfl) (by kernel_rfl) (fun _ _ _ h => h) (Or.inr ⟨by go_simp, rfl⟩) hHeld ?_
                  (try simp only [Act.put, List.setIfInBounds_toArray, List.set_cons_zero, List.set_cons_succ])
                  refine wpAnyH_take (i := 6) (oi := _) (v := undef) rfl (by kernel_rfl) (by kernel_rfl) (by kernel_rfl) (fun _ _ _ h => h) (Or.inr ⟨by go_simp, rfl⟩) hHeld ?_
                  (try simp only [Act.put, List.setIfInBounds_toArray, List.set_cons_zero, List.set_cons_succ])
                  refine wpAnyH_take (i := 7) (oi := _) (v := undef) rfl (by kernel_rfl) (by kernel_rfl) (by kernel_rfl) (fun _ _ _ h => h) (Or.inr ⟨by go_simp, rfl⟩) hHeld ?_
                  (try simp only [Act.put, List.setIfInBounds_toArray, List.set_cons_zero, List.set_cons_succ])
                  refine wpAnyH_take (i := 8) (oi := _) (v := undef) rfl (by kernel_rfl) (by kernel_rfl) (by kernel_rfl) (fun _ _ _ h => h) (Or.inr ⟨by go_simp, rfl⟩) hHeld ?_
                  (try simp only [Act.put, List.setIfInBounds_toArray, List.set_cons_zero, List.set_cons_succ])
                  refine wpAnyH_take (i := 9) (oi := _) (v := ?v48) rfl (by kernel_rfl) (by kernel_rfl) (by kernel_rfl) (fun _ _ _ h => h) (Or.inl ⟨by first | (go_simp; done) | rfl, ?hy48⟩) hHeld ?rest48
                  case hy48 => (intro w9 h9; (try dsimp only at h9); go_split_ands; go_simp; (try with_reducible rfl))
                  case rest48 =>
                    (try simp only [Act.put, List.setIfInBounds_toArray, List.set_cons_zero, List.set_cons_succ])
                    refine wpAnyH_take (i := 10) (oi := _) (v := ?v49) rfl (by kernel_rfl) (by kernel_rfl) (by kernel_rfl) (fun _ _ _ h => h) (Or.inl ⟨by first | (go_simp; done) | rfl, ?hy49⟩) hHeld ?rest49
                    case hy49 => (intro w9 h9; (try dsimp only at h9); go_split_ands; go_simp; (try with_reducible rfl))
                    case rest49 =>
                      (try simp only [Act.put, List.setIfInBounds_toArray, List.set_cons_zero, List.set_cons_succ])
                      refine wpAnyH_take (i := 11) (oi := _) (v := ?v50) rfl (by kernel_rfl) (by kernel_rfl) (by kernel_rfl) (fun _ _ _ h => h) (Or.inl ⟨by first | (go_simp; done) | rfl, ?hy50⟩) hHeld ?rest50
                      case hy50 => (intro w9 h9; (try dsimp only at h9); go_split_ands; go_simp; (try with_reducible rfl))
                      case rest50 =>
                        (try simp only [Act.put, List.setIfInBounds_toArray, List.set_cons_zero, List.set_cons_succ])
                        refine wpAnyH_take (i := 12) (oi := _) (v := ?v51) rfl (by kernel_rfl) (by kernel_rfl) (by kernel_rfl) (fun _ _ _ h => h) (Or.inl ⟨by first | (go_simp; done) | rfl, ?hy51⟩) hHeld ?rest51
                        case hy51 => (intro w9 h9; (try dsimp only at h9); go_split_ands; go_simp; (try with_reducible rfl))
                        case rest51 =>
                          (try simp only [Act.put, List.setIfInBounds_toArray, List.set_cons_zero, List.set_cons_succ])
                          refine wpAnyH_take (i := 13) (oi := _) (v := ?v52) rfl (by kernel_rfl) (by kernel_rfl) (by kernel_rfl) (fun _ _ _ h => h) (Or.inl ⟨by first | (go_simp; done) | rfl, ?hy52⟩) hHeld ?rest52
                          case hy52 => (intro w9 h9; (try dsimp only at h9); go_split_ands; go_simp; (try with_reducible rfl))
                          case rest52 =>
                            (try simp only [Act.put, List.setIfInBounds_toArray, List.set_cons_zero, List.set_cons_succ])
                            refine wpAnyH_take (i := 14) (oi := _) (v := ?v53) rfl (by kernel_rfl) (by kernel_rfl) (by kernel_rfl) (fun _ _ _ h => h) (Or.inl ⟨by first | (go_simp; done) | rfl, ?hy53⟩) hHeld ?rest53
                            case hy53 => (intro w9 h9; (try dsimp only at h9); go_split_ands; go_simp; (try with_reducible rfl))
                            case rest53 =>
                              (try simp only [Act.put, List.setIfInBounds_toArray, List.set_cons_zero, List.set_cons_succ])
                              refine wpAnyH_take (i := 15) (oi := _) (v := ?v54) rfl (by kernel_rfl) (by kernel_rfl) (by kernel_rfl) (fun _ _ _ h => h) (Or.inl ⟨by first | (go_simp; done) | rfl, ?hy54⟩) hHeld ?rest54
                              case hy54 => (intro w9 h9; (try dsimp only at h9); go_split_ands; go_simp; (try with_reducible rfl))
                              case rest54 =>
                                (try simp only [Act.put, List.setIfInBounds_toArray, List.set_cons_zero, List.set_cons_succ])
                                refine wpAnyH_take (i := 16) (oi := _) (v := ?v55) rfl (by kernel_rfl) (by kernel_rfl) (by kernel_rfl) (fun _ _ _ h => h) (Or.inl ⟨by first | (go_simp; done) | rfl, ?hy55⟩) hHeld ?rest55
                                case hy55 => (intro w9 h9; (try dsimp only at h9); go_split_ands; go_simp; (try with_reducible rfl))
                                case rest55 =>
                                  (try simp only [Act.put, List.setIfInBounds_toArray, List.set_cons_zero, List.set_cons_succ])
                                  refine wpAnyH_take (i := 18) (oi := _) (v := ?v56) rfl (by kernel_rfl) (by kernel_rfl) (by kernel_rfl) (fun _ _ _ h => h) (Or.inl ⟨by first | (go_simp; done) | rfl, ?hy56⟩) hHeld ?rest56
                                  case hy56 => (intro w9 h9; (try dsimp only at h9); go_split_ands; go_simp; (try with_reducible rfl))
                                  case rest56 =>
                                    (try simp only [Act.put, List.setIfInBounds_toArray, List.set_cons_zero, List.set_cons_succ])
                                    refine wpAnyH_take (i := 19) (oi := _) (v := ?v57) rfl (by kernel_rfl) (by kernel_rfl) (by kernel_rfl) (fun _ _ _ h => h) (Or.inl ⟨by first | (go_simp; done) | rfl, ?hy57⟩) hHeld ?rest57
                                    case hy57 => (intro w9 h9; (try dsimp only at h9); go_split_ands; go_simp; (try with_reducible rfl))
                                    case rest57 =>
                                      (try simp only [Act.put, List.setIfInBounds_toArray, List.set_cons_zero, List.set_cons_succ])
                                      refine wpAnyH_take (i := 20) (oi := _) (v := ?v58) rfl (by kernel_rfl) (by kernel_rfl) (by kernel_rfl) (fun _ _ _ h => h) (Or.inl ⟨by first | (go_simp; done) | rfl, ?hy58⟩) hHeld ?rest58
                                      case hy58 => (intro w9 h9; (try dsimp only at h9); go_split_ands; go_simp; (try with_reducible rfl))
                                      case rest58 =>
                                        (try simp only [Act.put, List.setIfInBounds_toArray, List.set_cons_zero, List.set_cons_succ])
                                        refine wpAnyH_take (i := 21) (oi := _) (v := ?v59) rfl (by kernel_rfl) (by kernel_rfl) (by kernel_rfl) (fun _ _ _ h => h) (Or.inl ⟨by first | (go_simp; done) | rfl, ?hy59⟩) hHeld ?rest59
                                        case hy59 => (intro w9 h9; (try dsimp only at h9); go_split_ands; go_simp; (try with_reducible rfl))
                                        case rest59 =>
                                          (try simp only [Act.put, List.setIfInBounds_toArray, List.set_cons_zero, List.set_cons_succ])
                                          refine wpAnyH_take (i := 22) (oi := _) (v := ?v60) rfl (by kernel_rfl) (by kernel_rfl) (by kernel_rfl) (fun _ _ _ h => h) (Or.inl ⟨by first | (go_simp; done) | rfl, ?hy60⟩) hHeld ?rest60
                                          case hy60 => (intro w9 h9; (try dsimp only at h9); go_split_ands; go_simp; (try with_reducible rfl))
                                          case rest60 =>
                                            (try simp only [Act.put, List.setIfInBounds_toArray, List.set_cons_zero, List.set_cons_succ])
                                            refine wpAnyH_take (i := 23) (oi := _) (v := ?v61) rfl (by kernel_rfl) (by kernel_rfl) (by kernel_rfl) (fun _ _ _ h => h) (Or.inl ⟨by first | (go_simp; done) | rfl, ?hy61⟩) hHeld ?rest61
                                            case hy61 => (intro w9 h9; (try dsimp only at h9); go_split_ands; go_simp; (try with_reducible rfl))
                                            case rest61 =>
                                              (try simp only [Act.put, List.setIfInBounds_toArray, List.set_cons_zero, List.set_cons_succ])
                                              refine wpAnyH_ready (rs := [17]) (by kernel_rfl) (by simp) ?_
                                              refine AllReadyH.cons (o := _) rfl (fun K hK => ?_) AllReadyH.nil
                                              · go_simp
                                                refine (HG1.out _ hHeld.2.2.2).mono ?_
                                                rintro e w2 ⟨va, rfl, oa, h1⟩
                                                (try go_wp2_with fail)
                                                have z1 := Ext.next hHeld.2.2.2 h1
                                                refine hK.out _ _ ⟨R3.out _ z1, RC.out _ z1 0, RC.out _ z1 2, z1⟩ (fun hH2 => ?_)
                                                clear hK K
                                                (try simp only [Act.put, List.setIfInBounds_toArray, List.set_cons_zero, List.set_cons_succ])
                                                refine wpAnyH_ready (rs := [24]) (by kernel_rfl) (by simp) ?_
                                                refine AllReadyH.cons (o := _) rfl (fun K hK => ?_) AllReadyH.nil
                                                go_simp
                                                refine (HG2.out _ z1).mono ?_
                                                rintro e w3 ⟨vb, rfl, ob, h2⟩
                                                replace oa := oa.ext h2
                                                (try go_wp2_with fail)
                                                replace z1 := z1.next h2
                                                clear h1
                                                refine hK.out _ _ ⟨R3.out _ z1, RC.out _ z1 0, RC.out _ z1 2, z1⟩ (fun hH3 => ?_)
                                                clear hK K
                                                (try simp only [Act.put, List.setIfInBounds_toArray, List.set_cons_zero, List.set_cons_succ])
                                                refine wpAnyH_ready (rs := [25]) (by kernel_rfl) (by simp) ?_
                                                obtain ⟨Ya, ya, rfl, oa2⟩ := oa.slf
                                                obtain ⟨Yb, yb, rfl, ob2⟩ := ob.slf
                                                refine AllReadyH.cons (o := _) rfl (fun K hK => ?_) AllReadyH.nil
                                                go_simp
                                                refine (specPrefixOf_any Ya Yb ya yb fa fb _ oa2.reads ob2.reads LA.out LB.out).mono ?_
                                                rintro e w4 ⟨e1, h3⟩
                                                rw [b5] at e1
                                                subst e1
                                                (try go_wp2_with fail)
                                                replace z1 := z1.next h3
                                                refine hK.out _ _ ⟨R3.out _ z1, RC.out _ z1 0, RC.out _ z1 2, z1⟩ (fun hH4 => ?_)
                                                clear hK K
                                                (try simp only [Act.put, List.setIfInBounds_toArray, List.set_cons_zero, List.set_cons_succ])
                                                refine wpAnyH_take (i := 26) (oi := _) (v := ?v62) rfl (by kernel_rfl) (by kernel_rfl) (by kernel_rfl) (fun _ _ _ h => h) (Or.inl ⟨by first | (go_simp; done) | rfl, ?hy62⟩) hH4 ?rest62
                                                case hy62 => (intro w9 h9; (try dsimp only at h9); go_split_ands; go_simp; (try with_reducible rfl))
                                                case rest62 =>
                                                  (try simp only [Act.put, List.setIfInBounds_toArray, List.set_cons_zero, List.set_cons_succ])
                                                  refine wpAnyH_take (i := 27) (oi := _) (v := ?v63) rfl (by kernel_rfl) (by kernel_rfl) (by kernel_rfl) (fun _ _ _ h => h) (Or.inl ⟨by first | (go_simp; done) | rfl, ?hy63⟩) hH4 ?rest63
                                                  case hy63 => (intro w9 h9; (try dsimp only at h9); go_split_ands; go_simp; (try with_reducible rfl))
                                                  case rest63 =>
                                                    (try simp only [Act.put, List.setIfInBounds_toArray, List.set_cons_zero, List.set_cons_succ])
                                                    refine wpAnyH_done (by kernel_rfl) ?_ _
                                                    go_wp2_with fail
                                                    go_ret
                                                    exact ⟨ret_bool E.out.symm, he1.out.next z1⟩
      case true =>
        have N := Lib.hid (KS.out.next Hxl.out (by rw [HP.out, b5]))
        refine wp_region_held_drew (S := fun w' => w'.cell? ⟨g, 3, none⟩ = some (.slice (some ⟨b, off, none⟩) d.scanned.length c3) ∧ w'.cell? ⟨gc, 0, none⟩ = some (.int .i64 x.who) ∧ w'.cell? ⟨gc, 2, none⟩ = some (.string x.entry.topic) ∧ Ext w1 w') (by kernel_rfl) (by have z0 : Ext w1 w1.drew := ⟨rfl, rfl, rfl, Nat.le_refl _, fun _ _ => rfl⟩; exact ⟨R3.out _ z0, RC.out _ z0 0, RC.out _ z0 2, z0⟩) (fun hHeld => ?_)
        refine wpAnyH_take (i := 0) (oi := _) (v := ?v64) rfl (by kernel_rfl) (by kernel_rfl) (by kernel_rfl) (fun _ _ _ h => h) (Or.inl ⟨by first | (go_simp; done) | rfl, ?hy64⟩) hHeld ?rest64
        case hy64 => (intro w9 h9; (try dsimp only at h9); go_split_ands; go_simp; (try with_reducible rfl))
        case rest64 =>
          (try simp only [Act.put, List.setIfInBounds_toArray, List.set_cons_zero, List.set_cons_succ])
          refine wpAnyH_take (i := 1) (oi := _) (v := ?v65) rfl (by kernel_rfl) (by kernel_rfl) (by kernel_rfl) (fun _ _ _ h => h) (Or.inl ⟨by first | (go_simp; done) | rfl, ?hy65⟩) hHeld ?rest65
          case hy65 => (intro w9 h9; (try dsimp only at h9); go_split_ands; go_simp; (try with_reducible rfl))
          case rest65 =>
            (try simp only [Act.put, List.setIfInBounds_toArray, List.set_cons_zero, List.set_cons_succ])
            refine wpAnyH_take (i := 2) (oi := _) (v := ?v66) rfl (by kernel_rfl) (by kernel_rfl) (by kernel_rfl) (fun _ _ _ h => h) (Or.inl ⟨by first | (go_simp; done) | rfl, ?hy66⟩) hHeld ?rest66
            case hy66 => (intro w9 h9; (try dsimp only at h9); go_split_ands; go_simp; (try with_reducible rfl))
            case rest66 =>
              (try simp only [Act.put, List.setIfInBounds_toArray, List.set_cons_zero, List.set_cons_succ])
              refine wpAnyH_take (i := 3) (oi := _) (v := ?v67) rfl (by kernel_rfl) (by kernel_rfl) (by kernel_rfl) (fun _ _ _ h => h) (Or.inl ⟨by first | (go_simp; done) | rfl, ?hy67⟩) hHeld ?rest67
              case hy67 => (intro w9 h9; (try dsimp only at h9); go_split_ands; go_simp; (try with_reducible rfl))
              case rest67 =>
                (try simp only [Act.put, List.setIfInBounds_toArray, List.set_cons_zero, List.set_cons_succ])
                refine wpAnyH_take (i := 4) (oi := _) (v := ?v68) rfl (by kernel_rfl) (by kernel_rfl) (by kernel_rfl) (fun _ _ _ h => h) (Or.inl ⟨by first | (go_simp; done) | rfl, ?hy68⟩) hHeld ?rest68
                case hy68 => (intro w9 h9; (try dsimp only at h9); go_split_ands; go_simp; (try with_reducible rfl))
                case rest68 =>
                  (try simp only [Act.put, List.setIfInBounds_toArray, List.set_cons_zero, List.set_cons_succ])
                  refine wpAnyH_take (i := 5) (oi := _) (v := undef) rfl (by kernel_rfl) (by kernel_rfl) (by kernel_rfl) (fun _ _ _ h => h) (Or.inr ⟨by go_simp, rfl⟩) hHeld ?_
                  (try simp only [Act.put, List.setIfInBounds_toArray, List.set_cons_zero, List.set_cons_succ])
                  refine wpAnyH_take (i := 6) (oi := _) (v := undef) rfl (by kernel_rfl) (by kernel_rfl) (by kernel_rfl) (fun _ _ _ h => h) (Or.inr ⟨by go_simp, rfl⟩) hHeld ?_
                  (try simp only [Act.put, List.setIfInBounds_toArray, List.set_cons_zero, List.set_cons_succ])
                  refine wpAnyH_take (i := 7) (oi := _) (v := undef) rfl (by kernel_rfl) (by kernel_rfl) (by kernel_rfl) (fun _ _ _ h => h) (Or.inr ⟨by go_simp, rfl⟩) hHeld ?_
                  (try simp only [Act.put, List.setIfInBounds_toArray, List.set_cons_zero, List.set_cons_succ])
                  refine wpAnyH_take (i := 8) (oi := _) (v := undef) rfl (by kernel_rfl) (by kernel_rfl) (by kernel_rfl) (fun _ _ _ h => h) (Or.inr ⟨by go_simp, rfl⟩) hHeld ?_
                  (try simp only [Act.put, List.setIfInBounds_toArray, List.set_cons_zero, List.set_cons_succ])
                  refine wpAnyH_take (i := 9) (oi := _) (v := ?v69) rfl (by kernel_rfl) (by kernel_rfl) (by kernel_rfl) (fun _ _ _ h => h) (Or.inl ⟨by first | (go_simp; done) | rfl, ?hy69⟩) hHeld ?rest69
                  case hy69 => (intro w9 h9; (try dsimp only at h9); go_split_ands; go_simp; (try with_reducible rfl))
                  case rest69 =>
                    (try simp only [Act.put, List.setIfInBounds_toArray, List.set_cons_zero, List.set_cons_succ])
                    refine wpAnyH_take (i := 10) (oi := _) (v := ?v70) rfl (by kernel_rfl) (by kernel_rfl) (by kernel_rfl) (fun _ _ _ h => h) (Or.inl ⟨by first | (go_simp; done) | rfl, ?hy70⟩) hHeld ?rest70
                    case hy70 => (intro w9 h9; (try dsimp only at h9); go_split_ands; go_simp; (try with_reducible rfl))
                    case rest70 =>
                      (try simp only [Act.put, List.setIfInBounds_toArray, List.set_cons_zero, List.set_cons_succ])
                      refine wpAnyH_take (i := 11) (oi := _) (v := ?v71) rfl (by kernel_rfl) (by kernel_rfl) (by kernel_rfl) (fun _ _ _ h => h) (Or.inl ⟨by first | (go_simp; done) | rfl, ?hy71⟩) hHeld ?rest71
                      case hy71 => (intro w9 h9; (try dsimp only at h9); go_split_ands; go_simp; (try with_reducible rfl))
                      case rest71 =>
                        (try simp only [Act.put, List.setIfInBounds_toArray, List.set_cons_zero, List.set_cons_succ])
                        refine wpAnyH_take (i := 12) (oi := _) (v := ?v72) rfl (by kernel_rfl) (by kernel_rfl) (by kernel_rfl) (fun _ _ _ h => h) (Or.inl ⟨by first | (go_simp; done) | rfl, ?hy72⟩) hHeld ?rest72
                        case hy72 => (intro w9 h9; (try dsimp only at h9); go_split_ands; go_simp; (try with_reducible rfl))
                        case rest72 =>
                          (try simp only [Act.put, List.setIfInBounds_toArray, List.set_cons_zero, List.set_cons_succ])
                          refine wpAnyH_take (i := 13) (oi := _) (v := ?v73) rfl (by kernel_rfl) (by kernel_rfl) (by kernel_rfl) (fun _ _ _ h => h) (Or.inl ⟨by first | (go_simp; done) | rfl, ?hy73⟩) hHeld ?rest73
                          case hy73 => (intro w9 h9; (try dsimp only at h9); go_split_ands; go_simp; (try with_reducible rfl))
                          case rest73 =>
                            (try simp only [Act.put, List.setIfInBounds_toArray, List.set_cons_zero, List.set_cons_succ])
                            refine wpAnyH_take (i := 14) (oi := _) (v := ?v74) rfl (by kernel_rfl) (by kernel_rfl) (by kernel_rfl) (fun _ _ _ h => h) (Or.inl ⟨by first | (go_simp; done) | rfl, ?hy74⟩) hHeld ?rest74
                            case hy74 => (intro w9 h9; (try dsimp only at h9); go_split_ands; go_simp; (try with_reducible rfl))
                            case rest74 =>
                              (try simp only [Act.put, List.setIfInBounds_toArray, List.set_cons_zero, List.set_cons_succ])
                              refine wpAnyH_take (i := 15) (oi := _) (v := ?v75) rfl (by kernel_rfl) (by kernel_rfl) (by kernel_rfl) (fun _ _ _ h => h) (Or.inl ⟨by first | (go_simp; done) | rfl, ?hy75⟩) hHeld ?rest75
                              case hy75 => (intro w9 h9; (try dsimp only at h9); go_split_ands; go_simp; (try with_reducible rfl))
                              case rest75 =>
                                (try simp only [Act.put, List.setIfInBounds_toArray, List.set_cons_zero, List.set_cons_succ])
                                refine wpAnyH_take (i := 16) (oi := _) (v := ?v76) rfl (by kernel_rfl) (by kernel_rfl) (by kernel_rfl) (fun _ _ _ h => h) (Or.inl ⟨by first | (go_simp; done) | rfl, ?hy76⟩) hHeld ?rest76
                                case hy76 => (intro w9 h9; (try dsimp only at h9); go_split_ands; go_simp; (try with_reducible rfl))
                                case rest76 =>
                                  (try simp only [Act.put, List.setIfInBounds_toArray, List.set_cons_zero, List.set_cons_succ])
                                  refine wpAnyH_take (i := 18) (oi := _) (v := ?v77) rfl (by kernel_rfl) (by kernel_rfl) (by kernel_rfl) (fun _ _ _ h => h) (Or.inl ⟨by first | (go_simp; done) | rfl, ?hy77⟩) hHeld ?rest77
                                  case hy77 => (intro w9 h9; (try dsimp only at h9); go_split_ands; go_simp; (try with_reducible rfl))
                                  case rest77 =>
                                    (try simp only [Act.put, List.setIfInBounds_toArray, List.set_cons_zero, List.set_cons_succ])
                                    refine wpAnyH_take (i := 19) (oi := _) (v := ?v78) rfl (by kernel_rfl) (by kernel_rfl) (by kernel_rfl) (fun _ _ _ h => h) (Or.inl ⟨by first | (go_simp; done) | rfl, ?hy78⟩) hHeld ?rest78
                                    case hy78 => (intro w9 h9; (try dsimp only at h9); go_split_ands; go_simp; (try with_reducible rfl))
                                    case rest78 =>
                                      (try simp only [Act.put, List.setIfInBounds_toArray, List.set_cons_zero, List.set_cons_succ])
                                      refine wpAnyH_take (i := 20) (oi := _) (v := ?v79) rfl (by kernel_rfl) (by kernel_rfl) (by kernel_rfl) (fun _ _ _ h => h) (Or.inl ⟨by first | (go_simp; done) | rfl, ?hy79⟩) hHeld ?rest79
                                      case hy79 => (intro w9 h9; (try dsimp only at h9); go_split_ands; go_simp; (try with_reducible rfl))
                                      case rest79 =>
                                        (try simp only [Act.put, List.setIfInBounds_toArray, List.set_cons_zero, List.set_cons_succ])
                                        refine wpAnyH_take (i := 21) (oi := _) (v := ?v80) rfl (by kernel_rfl) (by kernel_rfl) (by kernel_rfl) (fun _ _ _ h => h) (Or.inl ⟨by first | (go_simp; done) | rfl, ?hy80⟩) hHeld ?rest80
                                        case hy80 => (intro w9 h9; (try dsimp only at h9); go_split_ands; go_simp; (try with_reducible rfl))
                                        case rest80 =>
                                          (try simp only [Act.put, List.setIfInBounds_toArray, List.set_cons_zero, List.set_cons_succ])
                                          refine wpAnyH_take (i := 22) (oi := _) (v := ?v81) rfl (by kernel_rfl) (by kernel_rfl) (by kernel_rfl) (fun _ _ _ h => h) (Or.inl ⟨by first | (go_simp; done) | rfl, ?hy81⟩) hHeld ?rest81
                                          case hy81 => (intro w9 h9; (try dsimp only at h9); go_split_ands; go_simp; (try with_reducible rfl))
                                          case rest81 =>
                                            (try simp only [Act.put, List.setIfInBounds_toArray, List.set_cons_zero, List.set_cons_succ])
                                            refine wpAnyH_take (i := 23) (oi := _) (v := ?v82) rfl (by kernel_rfl) (by kernel_rfl) (by kernel_rfl) (fun _ _ _ h => h) (Or.inl ⟨by first | (go_simp; done) | rfl, ?hy82⟩) hHeld ?rest82
                                            case hy82 => (intro w9 h9; (try dsimp only at h9); go_split_ands; go_simp; (try with_reducible rfl))
                                            case rest82 =>
                                              (try simp only [Act.put, List.setIfInBounds_toArray, List.set_cons_zero, List.set_cons_succ])
                                              refine wpAnyH_ready (rs := [17]) (by kernel_rfl) (by simp) ?_
                                              refine AllReadyH.cons (o := _) rfl (fun K hK => ?_) AllReadyH.nil
                                              · go_simp
                                                refine (HG1.out _ hHeld.2.2.2).mono ?_
                                                rintro e w2 ⟨va, rfl, oa, h1⟩
                                                (try go_wp2_with fail)
                                                have z1 := Ext.next hHeld.2.2.2 h1
                                                refine hK.out _ _ ⟨R3.out _ z1, RC.out _ z1 0, RC.out _ z1 2, z1⟩ (fun hH2 => ?_)
                                                clear hK K
                                                (try simp only [Act.put, List.setIfInBounds_toArray, List.set_cons_zero, List.set_cons_succ])
                                                refine wpAnyH_ready (rs := [24]) (by kernel_rfl) (by simp) ?_
                                                refine AllReadyH.cons (o := _) rfl (fun K hK => ?_) AllReadyH.nil
                                                go_simp
                                                refine (HG2.out _ z1).mono ?_
                                                rintro e w3 ⟨vb, rfl, ob, h2⟩
                                                replace oa := oa.ext h2
                                                (try go_wp2_with fail)
                                                replace z1 := z1.next h2
                                                clear h1
                                                refine hK.out _ _ ⟨R3.out _ z1, RC.out _ z1 0, RC.out _ z1 2, z1⟩ (fun hH3 => ?_)
                                                clear hK K
                                                (try simp only [Act.put, List.setIfInBounds_toArray, List.set_cons_zero, List.set_cons_succ])
                                                refine wpAnyH_ready (rs := [25]) (by kernel_rfl) (by simp) ?_
                                                obtain ⟨Ya, ya, rfl, oa2⟩ := oa.slf
                                                obtain ⟨Yb, yb, rfl, ob2⟩ := ob.slf
                                                refine AllReadyH.cons (o := _) rfl (fun K hK => ?_) AllReadyH.nil
                                                go_simp
                                                refine (specPrefixOf_any Ya Yb ya yb fa fb _ oa2.reads ob2.reads LA.out LB.out).mono ?_
                                                rintro e w4 ⟨e1, h3⟩
                                                rw [b5] at e1
                                                subst e1
                                                (try go_wp2_with fail)
                                                replace z1 := z1.next h3
                                                refine hK.out _ _ ⟨R3.out _ z1, RC.out _ z1 0, RC.out _ z1 2, z1⟩ (fun hH4 => ?_)
                                                clear hK K
                                                (try simp only [Act.put, List.setIfInBounds_toArray, List.set_cons_zero, List.set_cons_succ])
                                                refine wpAnyH_take (i := 26) (oi := _) (v := ?v83) rfl (by kernel_rfl) (by kernel_rfl) (by kernel_rfl) (fun _ _ _ h => h) (Or.inl ⟨by first | (go_simp; done) | rfl, ?hy83⟩) hH4 ?rest83
                                                case hy83 => (intro w9 h9; (try dsimp only at h9); go_split_ands; go_simp; (try with_reducible rfl))
                                                case rest83 =>
                                                  (try simp only [Act.put, List.setIfInBounds_toArray, List.set_cons_zero, List.set_cons_succ])
                                                  refine wpAnyH_take (i := 27) (oi := _) (v := ?v84) rfl (by kernel_rfl) (by kernel_rfl) (by kernel_rfl) (fun _ _ _ h => h) (Or.inl ⟨by first | (go_simp; done) | rfl, ?hy84⟩) hH4 ?rest84
                                                  case hy84 => (intro w9 h9; (try dsimp only at h9); go_split_ands; go_simp; (try with_reducible rfl))
                                                  case rest84 =>
                                                    (try simp only [Act.put, List.setIfInBounds_toArray, List.set_cons_zero, List.set_cons_succ])
                                                    refine wpAnyH_done (by kernel_rfl) ?_ _
                                                    go_wp2_with fail
                                                    go_roundw
                                                    case rel => exact ⟨k + 1, by omega, by go_num, N.out, K1.out.ext z1, he1.out.next z1⟩
                                                    case measure => simp [intOf]; omega
end Go.Proofs.Ytcpfgldcijkhlaa

/-
  The program's ReadLeaf returns what the reference's returns, for all arguments. No condition.
-/
import Derived.Test.YthkioaimcohecaaRows
import Derived.Test.YthkioaimcohecaaFacts
import Derived.Test.YthkioaimcohecaaReadLf
import Derived.Test.YthkioaimcohecaaReread
import Derived.Test.YthkioaimcohecaaConvEntry
namespace Go.Proofs.Ythkioaimcohecaa
open Go.RowKit Go.WideShapes Go.ChangeAt
set_option linter.unusedVariables false

theorem four_of (b : ByteArray) (h : b.size = 4) : lowB (beNum b) 4 = b := by
  show octB ((beNum b / 256 ^ 3 : Nat) : Int) ++ (octB ((beNum b / 256 ^ 2 : Nat) : Int) ++ (octB ((beNum b / 256 ^ 1 : Nat) : Int) ++ (octB ((beNum b / 256 ^ 0 : Nat) : Int) ++ ⟨#[]⟩))) = b
  rw [append_nil]
  obtain ⟨⟨l⟩⟩ := b
  match l, h with
  | [c, d, e, f], _ =>
    have h1 := c.toNat_lt
    have h2 := d.toNat_lt
    have h3 := e.toNat_lt
    have h4 := f.toNat_lt
    simp only [beNum, octB, ofInts, List.foldl_cons, List.foldl_nil, List.map_cons, List.map_nil]
    rw [ofNat_mod _ c (by omega), ofNat_mod _ d (by omega), ofNat_mod _ e (by omega), ofNat_mod _ f (by omega)]
    rfl
theorem rl_same (T : ByteArray) : rlImpl T = rlSpec T := by
  unfold rlImpl rlSpec
  cases hb : (rl6 T).bad
  · cases hk : entryOk (rlD T)
    · simp
    · have h6 := rdShortNext_ok hb
      have p6 := two_of _ h6.2.2.1
      rw [← h6.2.2.2] at p6
      have h5 := rdShortNext_ok h6.1
      have p5 := lenB _ _ h5.2.2.1 h5.2.2.2
      have h4 := rdNext_ok h5.1
      have p4 := four_of _ (rdTake_full h5.1)
      have h3 := rdNext_ok h4.1
      have p3 := two_of _ (rdTake_full h4.1)
      have h2 := rdShortNext_ok h3.1
      have p2 := lenB _ _ h2.2.2.1 h2.2.2.2
      have hp : (rdTake T rl0 1).size = 1 := rdTake_full h2.1
      have hS : Sofar T (rl6 T) (((((((((⟨#[]⟩ ++ rdTake T rl0 1) ++ rdTake T (rl1 T) 1) ++ rdShort T (rl1 T) 1) ++ rdTake T (rl2 T) 2) ++ rdTake T (rl3 T) 4) ++ rdTake T (rl4 T) 1) ++ rdShort T (rl4 T) 1) ++ rdTake T (rl5 T) 2) ++ rdShort T (rl5 T) 2) :=
        ((((((((((Sofar.start T).take 1).take 1).take _).take 2).take 4).take 1).take _).take 2).take _)
      rw [← p2, ← p3, ← p4, ← p5, ← p6] at hS
      have hE : (⟨#[]⟩ : ByteArray) ++ rdTake T rl0 1 = rdTake T rl0 1 := ByteArray.empty_append
      rw [hE] at hS
      simp only [ByteArray.append_assoc] at hS
      have h := reread (k := ⟨#[69]⟩) hS hb hp
      simp only [leafText, hk, Bool.and_true, Bool.true_and, Bool.not_false, if_true, rlKind, kind_of, bytes_beq]
      rw [h]
      simp only [leafT, rlD, ByteArray.append_assoc, Int.toNat_natCast]
  · rw [reread_bad hb]; simp

theorem rlRes_eq (ok : Bool) (d : EntryD) : rlRes ok d = .returned (.tuple #[.agg #[.string (rlOut ok d).topic, .int .i64 (rlOut ok d).index, .int .i64 (rlOut ok d).time, .string (rlOut ok d).key, .string (rlOut ok d).body], .bool ok]) := rfl
set_option maxHeartbeats 1000000 in
set_option maxRecDepth 100000 in
theorem lawReadLeaf_walk (T : ByteArray) (w : World) (hT : T.size ≤ maxLen) :
    Calls Try.prog 10 #[.string T] w fun e w' => e = .returned (.bool true) ∧ Ext w w' := by
  unfold maxLen at hT
  by_cases hs : 1048576 < T.size
  · go_enter Try.func10, Try.ntmps10
    go_wp2_with fail
    go_ret
    exact ⟨rfl, by go_grown⟩
  · go_enter Try.func10, Try.ntmps10
    go_wp2_with fail
    have he := Below.refl w.heap.size w
    refine (specReadLeaf_any T _ (by omega)).mono ?_
    rintro e w1 ⟨he1, h1⟩
    rw [rlRes_eq] at he1
    subst he1
    replace he := Ext.next he h1; clear h1
    obtain ⟨d, hd⟩ : ∃ d, d = rlOut (rlSpec T) (rlD T) := ⟨_, rfl⟩
    obtain ⟨ok, hok⟩ : ∃ ok, ok = rlSpec T := ⟨_, rfl⟩
    rw [← hd, ← hok]
    have Hd := Lib.hid hd
    have Ho := Lib.hid hok
    clear hd hok
    go_wp2_with fail
    have b0 := Blk.new w1 65 #[.string d.topic, .int .i64 d.index, .int .i64 d.time, .string d.key, .string d.body]
    replace he := he.new (.cells #[.string d.topic, .int .i64 d.index, .int .i64 d.time, .string d.key, .string d.body] 65)
    refine (ReadLeaf_any T _ (by omega)).mono ?_
    rintro e w2 ⟨he1, h1⟩
    rw [rl_same, rlRes_eq, ← Hd.out, ← Ho.out] at he1
    subst he1
    replace he := he.next h1; replace b0 := b0.ext h1; clear h1
    go_upto_region 5 with fail
    have b1 := Blk.new w2 65 #[.string d.topic, .int .i64 d.index, .int .i64 d.time, .string d.key, .string d.body]
    replace he := he.new (.cells #[.string d.topic, .int .i64 d.index, .int .i64 d.time, .string d.key, .string d.body] 65)
    replace b0 := b0.alloc (.cells #[.string d.topic, .int .i64 d.index, .int .i64 d.time, .string d.key, .string d.body] 65)
    generalize w2.alloc (.cells #[.string d.topic, .int .i64 d.index, .int .i64 d.time, .string d.key, .string d.body] 65) = w3 at *
    obtain ⟨hc, hf⟩ := b0.rules
    obtain ⟨kc, kf⟩ := b1.rules
    go_wp2_with fail
    refine (eqEntry_same d _).mono ?_
    rintro e w4 ⟨rfl, h1⟩
    replace he := he.next h1
    cases ok
    all_goals
      go_wp2_with fail
      go_ret
      exact ⟨rfl, he⟩

set_option maxRecDepth 100000 in
theorem ReadLeaf_holds : Rows.FnExactReadLeafSaid :=
  lawOver (p := Try.pinned) (c := Rows.fnExactReadLeafRow) (s := Rows.fnExactReadLeafSpec) 10 Try.f10 4
    own laidOut (by kernel_rfl) (by kernel_rfl) rfl rfl Try.underlying4
    (fun H ds h => by match ds, h with | [d0], _ => rfl)
    rfl rfl rfl rfl rfl rfl rfl ⟨rfl, rfl, rfl, rfl, rfl⟩ rfl rfl rfl rfl rfl (by kernel_rfl) Try.func10 (by kernel_rfl)
    (of_decide_eq_true (by kernel_rfl)) (by unfold Func.isWrapper; rw [if_neg (of_decide_eq_false (by kernel_rfl))]; exact ⟨rfl, rfl⟩)
    rfl rfl (fun _ _ => rfl) rfl rfl rfl rfl
    (fun os started H enc => ChangeSpec.witness6 (enc := enc) (C := Try.checked) false ⟨#[], #[.string ⟨#[]⟩], []⟩ 20 (by kernel_rfl) (by kernel_rfl) (by kernel_rfl) (by kernel_rfl))
    (fun W args h => by
      have hs := h.size
      obtain ⟨l⟩ := args
      match l, hs with
      | [v0], _ =>
        obtain ⟨base0, n0, o0, t0⟩ := h.arg 0 9 v0 rfl rfl
        obtain ⟨T, rfl⟩ := okWide_string Try.underlying9 o0
        obtain ⟨T', hT', hT⟩ := typed_string Try.underlying9 t0
        obtain rfl : T = T' := by simpa [Value.cells] using hT'
        exact lawReadLeaf_walk T W hT)
#print axioms ReadLeaf_holds
end Go.Proofs.Ythkioaimcohecaa

/-
  The program's ItemOk returns what the reference's returns, for all arguments. Written by program (gen_lawbig.py). No condition.
-/
import Derived.Test.YteaphajagmbllaaGreatRows
import Derived.Test.YteaphajagmbllaaGreatFacts
import Derived.Test.YteaphajagmbllaaGreatItemIn
import Derived.Test.YteaphajagmbllaaGreatItemOps
namespace Go.Proofs.YteaphajagmbllaaGreat
open Go.RowKit Go.WideShapes Go.ChangeAt
set_option linter.unusedVariables false

set_option maxHeartbeats 4000000 in
set_option maxRecDepth 100000 in
theorem lawItemOk_walk (n : Int) (d : ItemD) (A0 : Option Addr) (c0 : Nat) (A1 : Option Addr) (c1 : Nat) (w : World) (hok : d.Ok) (s0 : SlF AnyB sone 1 w A0 d.proof c0) (s1 : SlF AnyB sone 1 w A1 d.more c1) :
    Calls Tryz.prog 3 #[.int .i64 n, .agg #[.int .i64 d.kind, .int .i64 d.old.number, .int .i64 d.old.size, .string d.old.root, .int .i64 d.old.taken, .string d.old.takenRoot, .int .i64 d.head.number, .int .i64 d.head.size, .string d.head.root, .int .i64 d.head.taken, .string d.head.takenRoot, .int .i64 d.leaf, .string d.entry.topic, .int .i64 d.entry.index, .int .i64 d.entry.time, .string d.entry.key, .string d.entry.body, .string d.receipt.reader, .string d.receipt.topic, .int .i64 d.receipt.index, .slice A0 d.proof.length c0, .slice A1 d.more.length c1]] w fun e w' => e = .returned (.bool true) ∧ Ext w w' := by
  have K0 := Blk.new w 30 #[.int .i64 d.kind, .int .i64 d.old.number, .int .i64 d.old.size, .string d.old.root, .int .i64 d.old.taken, .string d.old.takenRoot, .int .i64 d.head.number, .int .i64 d.head.size, .string d.head.root, .int .i64 d.head.taken, .string d.head.takenRoot, .int .i64 d.leaf, .string d.entry.topic, .int .i64 d.entry.index, .int .i64 d.entry.time, .string d.entry.key, .string d.entry.body, .string d.receipt.reader, .string d.receipt.topic, .int .i64 d.receipt.index, .slice A0 d.proof.length c0, .slice A1 d.more.length c1]
  have he := Ext.new (Below.refl w.heap.size w) (.cells #[.int .i64 d.kind, .int .i64 d.old.number, .int .i64 d.old.size, .string d.old.root, .int .i64 d.old.taken, .string d.old.takenRoot, .int .i64 d.head.number, .int .i64 d.head.size, .string d.head.root, .int .i64 d.head.taken, .string d.head.takenRoot, .int .i64 d.leaf, .string d.entry.topic, .int .i64 d.entry.index, .int .i64 d.entry.time, .string d.entry.key, .string d.entry.body, .string d.receipt.reader, .string d.receipt.topic, .int .i64 d.receipt.index, .slice A0 d.proof.length c0, .slice A1 d.more.length c1] 30)
  obtain ⟨C, hC⟩ : ∃ C : List Value, C = [.int .i64 d.kind, .int .i64 d.old.number, .int .i64 d.old.size, .string d.old.root, .int .i64 d.old.taken, .string d.old.takenRoot, .int .i64 d.head.number, .int .i64 d.head.size, .string d.head.root, .int .i64 d.head.taken, .string d.head.takenRoot, .int .i64 d.leaf, .string d.entry.topic, .int .i64 d.entry.index, .int .i64 d.entry.time, .string d.entry.key, .string d.entry.body, .string d.receipt.reader, .string d.receipt.topic, .int .i64 d.receipt.index, .slice A0 d.proof.length c0, .slice A1 d.more.length c1] := ⟨_, rfl⟩
  have SI := Lib.hid (show ItemD.In AnyB w C d from ⟨A0, c0, A1, c1, hC, s0, s1⟩)
  have RG := Lib.hid (show (w.alloc (.cells #[.int .i64 d.kind, .int .i64 d.old.number, .int .i64 d.old.size, .string d.old.root, .int .i64 d.old.taken, .string d.old.takenRoot, .int .i64 d.head.number, .int .i64 d.head.size, .string d.head.root, .int .i64 d.head.taken, .string d.head.takenRoot, .int .i64 d.leaf, .string d.entry.topic, .int .i64 d.entry.index, .int .i64 d.entry.time, .string d.entry.key, .string d.entry.body, .string d.receipt.reader, .string d.receipt.topic, .int .i64 d.receipt.index, .slice A0 d.proof.length c0, .slice A1 d.more.length c1] 30)).rangeAt w.heap.size 0 C by rw [hC]; exact K0.range)
  have HL := Lib.hid (ItemD.in_len SI.out)
  have Hok := Lib.hid hok; clear hok s0 s1 hC
  have lg := K0.lt; clear K0
  by_cases cz : szL d.lens 1048576 < 0
  · go_enter Tryz.func3, Tryz.ntmps3
    go_wp2_with (refine wpList_load_mid rfl 30 _ rfl w.heap.size 0 rfl C _ RG.out Tryz.underlying30 rfl (by rw [HL.out]; kernel_rfl) ?_)
    obtain ⟨g, hg⟩ : ∃ g, g = w.heap.size := ⟨_, rfl⟩
    rw [← hg] at RG lg
    rw [← hg]
    clear hg
    generalize w.alloc (.cells #[.int .i64 d.kind, .int .i64 d.old.number, .int .i64 d.old.size, .string d.old.root, .int .i64 d.old.taken, .string d.old.takenRoot, .int .i64 d.head.number, .int .i64 d.head.size, .string d.head.root, .int .i64 d.head.taken, .string d.head.takenRoot, .int .i64 d.leaf, .string d.entry.topic, .int .i64 d.entry.index, .int .i64 d.entry.time, .string d.entry.key, .string d.entry.body, .string d.receipt.reader, .string d.receipt.topic, .int .i64 d.receipt.index, .slice A0 d.proof.length c0, .slice A1 d.more.length c1] 30) = w0 at *
    refine (szItem_in d C _ _ Hok.out (ItemD.inExt SI.out he) (by decide) (by decide)).mono ?_
    rintro e w1 ⟨rfl, h1⟩
    have RG1 := Lib.hid (range_ext RG.out h1 lg); have lg1 := Nat.lt_of_lt_of_le lg h1.size
    replace he := he.next h1; clear h1
    go_wp2_with fail
    go_ret
    exact ⟨rfl, he⟩
  have hf := szL_fit (by decide) (by decide) cz
  have SP : Hid (∀ (cs : List Value) (w : World), ItemD.In AnyB w cs d → Calls Tryz.prog 5 #[.int .i64 n, .agg cs.toArray] w fun e w' => e = .returned (.bool (itemOk n d)) ∧ Ext w w') := Lib.hid (fun cs w h => by obtain ⟨Q0, q0, Q1, q1, rfl, t0, t1⟩ := h; exact specItemOk_any n d Q0 q0 Q1 q1 w Hok.out t0 t1 hf)
  have IM : Hid (∀ (cs : List Value) (w : World), ItemD.In AnyB w cs d → Calls Tryz.prog 7 #[.int .i64 n, .agg cs.toArray] w fun e w' => e = .returned (.bool (itemOk n d)) ∧ Ext w w') := Lib.hid (fun cs w h => by obtain ⟨Q0, q0, Q1, q1, rfl, t0, t1⟩ := h; exact implItemOk_any n d Q0 q0 Q1 q1 w Hok.out t0 t1 hf)
  generalize itemOk n d = r0 at SP IM
  have ne0 : (r0 != r0) = false := by simp
  go_enter Tryz.func3, Tryz.ntmps3
  go_wp2_with (refine wpList_load_mid rfl 30 _ rfl w.heap.size 0 rfl C _ RG.out Tryz.underlying30 rfl (by rw [HL.out]; kernel_rfl) ?_)
  obtain ⟨g, hg⟩ : ∃ g, g = w.heap.size := ⟨_, rfl⟩
  rw [← hg] at RG lg
  rw [← hg]
  clear hg
  generalize w.alloc (.cells #[.int .i64 d.kind, .int .i64 d.old.number, .int .i64 d.old.size, .string d.old.root, .int .i64 d.old.taken, .string d.old.takenRoot, .int .i64 d.head.number, .int .i64 d.head.size, .string d.head.root, .int .i64 d.head.taken, .string d.head.takenRoot, .int .i64 d.leaf, .string d.entry.topic, .int .i64 d.entry.index, .int .i64 d.entry.time, .string d.entry.key, .string d.entry.body, .string d.receipt.reader, .string d.receipt.topic, .int .i64 d.receipt.index, .slice A0 d.proof.length c0, .slice A1 d.more.length c1] 30) = w0 at *
  refine (szItem_in d C _ _ Hok.out (ItemD.inExt SI.out he) (by decide) (by decide)).mono ?_
  rintro e w1 ⟨rfl, h1⟩
  have RG1 := Lib.hid (range_ext RG.out h1 lg); have lg1 := Nat.lt_of_lt_of_le lg h1.size
  replace he := he.next h1; clear h1
  go_wp2_with (refine wpList_load_mid rfl 30 _ rfl g 0 rfl C _ RG1.out Tryz.underlying30 rfl (by rw [HL.out]; kernel_rfl) ?_)
  refine (toItem_in d C _ (ItemD.inExt SI.out he) hf).mono ?_
  rintro e w2 ⟨cs, rfl, i2, h1⟩
  have RG2 := Lib.hid (range_ext RG1.out h1 lg1); have lg2 := Nat.lt_of_lt_of_le lg1 h1.size; replace he := he.next h1; clear h1 RG1 lg1
  go_wp2_with fail
  refine (SP.out cs _ (ItemD.inAny i2)).mono ?_
  rintro e w3 ⟨rfl, h1⟩
  have RG3 := Lib.hid (range_ext RG2.out h1 lg2); have lg3 := Nat.lt_of_lt_of_le lg2 h1.size; replace he := he.next h1; clear h1 RG2 lg2 SP i2
  go_wp2_with (refine wpList_load_mid rfl 30 _ rfl g 0 rfl C _ RG3.out Tryz.underlying30 rfl (by rw [HL.out]; kernel_rfl) ?_)
  refine (toItem_in d C _ (ItemD.inExt SI.out he) hf).mono ?_
  rintro e w4 ⟨X, rfl, i4, h1⟩
  have RG4 := Lib.hid (range_ext RG3.out h1 lg3); have lg4 := Nat.lt_of_lt_of_le lg3 h1.size; replace he := he.next h1; clear h1 RG3 lg3
  have hxl := ItemD.in_len i4
  have hx1 := Lib.hid (ItemD.one i4)
  have bz := Blk.new w4 37 #[.int .i64 0, .int .i64 0, .int .i64 0, .string ⟨#[]⟩, .int .i64 0, .string ⟨#[]⟩, .int .i64 0, .int .i64 0, .string ⟨#[]⟩, .int .i64 0, .string ⟨#[]⟩, .int .i64 0, .string ⟨#[]⟩, .int .i64 0, .int .i64 0, .string ⟨#[]⟩, .string ⟨#[]⟩, .string ⟨#[]⟩, .string ⟨#[]⟩, .int .i64 0, .slice none 0 0, .slice none 0 0]
  have TH := Lib.hid (show (w4.alloc (.cells #[.int .i64 0, .int .i64 0, .int .i64 0, .string ⟨#[]⟩, .int .i64 0, .string ⟨#[]⟩, .int .i64 0, .int .i64 0, .string ⟨#[]⟩, .int .i64 0, .string ⟨#[]⟩, .int .i64 0, .string ⟨#[]⟩, .int .i64 0, .int .i64 0, .string ⟨#[]⟩, .string ⟨#[]⟩, .string ⟨#[]⟩, .string ⟨#[]⟩, .int .i64 0, .slice none 0 0, .slice none 0 0] 37)).there w4.heap.size 0 X.length by rw [hxl]; exact Blk.there bz 0 22 (by simp))
  have bx := Lib.hid (bz.put 0 X X.toArray (by simp [hxl]) (by simp [hxl]))
  clear bz
  have E45 := Lib.hid (ext_setCells (Nat.le_refl _) X 0 _ (Ext.new (Below.refl w4.heap.size w4) (.cells #[.int .i64 0, .int .i64 0, .int .i64 0, .string ⟨#[]⟩, .int .i64 0, .string ⟨#[]⟩, .int .i64 0, .int .i64 0, .string ⟨#[]⟩, .int .i64 0, .string ⟨#[]⟩, .int .i64 0, .string ⟨#[]⟩, .int .i64 0, .int .i64 0, .string ⟨#[]⟩, .string ⟨#[]⟩, .string ⟨#[]⟩, .string ⟨#[]⟩, .int .i64 0, .slice none 0 0, .slice none 0 0] 37)))
  have HX := Lib.hid hxl; clear hxl
  go_wp2_with (first | (refine wpList_store_list rfl 37 _ _ rfl rfl w4.heap.size 0 X rfl rfl TH.out (by rw [HX.out]; kernel_rfl) hx1.out ?_; clear TH; generalize (w4.alloc (.cells #[.int .i64 0, .int .i64 0, .int .i64 0, .string ⟨#[]⟩, .int .i64 0, .string ⟨#[]⟩, .int .i64 0, .int .i64 0, .string ⟨#[]⟩, .int .i64 0, .string ⟨#[]⟩, .int .i64 0, .string ⟨#[]⟩, .int .i64 0, .int .i64 0, .string ⟨#[]⟩, .string ⟨#[]⟩, .string ⟨#[]⟩, .string ⟨#[]⟩, .int .i64 0, .slice none 0 0, .slice none 0 0] 37)).setCells w4.heap.size 0 X = w5 at E45 bx ⊢) | (refine wpList_load_mid rfl 37 _ rfl w4.heap.size 0 rfl X _ (Blk.range bx.out) Tryz.underlying37 rfl (by rw [HX.out]; kernel_rfl) ?_))
  have RG5 := Lib.hid (range_ext RG4.out E45.out lg4); have lg5 := Nat.lt_of_lt_of_le lg4 E45.out.size; replace he := he.next E45.out; have i5 := ItemD.inExt i4 E45.out; clear RG4 lg4 i4
  have lx := bx.out.lt; have RX := Lib.hid (Blk.range bx.out)
  obtain ⟨gx, hgx⟩ : ∃ gx, gx = w4.heap.size := ⟨_, rfl⟩
  rw [← hgx] at lx RX
  rw [← hgx]
  clear hgx E45 bx
  refine (IM.out X _ (ItemD.inAny i5)).mono ?_
  rintro e w6 ⟨rfl, h1⟩
  have RG6 := Lib.hid (range_ext RG5.out h1 lg5); have lg6 := Nat.lt_of_lt_of_le lg5 h1.size; have RX6 := Lib.hid (range_ext RX.out h1 lx); have lx6 := Nat.lt_of_lt_of_le lx h1.size; replace he := he.next h1; have i6 := ItemD.inExt i5 h1; clear h1 RG5 lg5 RX lx i5 IM
  go_wp2_with fail
  refine wp_region_held_drew (S := fun w' => Ext w6 w') (by kernel_rfl) ⟨rfl, rfl, rfl, Nat.le_refl _, fun _ _ => rfl⟩ (fun hHeld => ?_)
  refine wpAnyH_take (i := 0) (oi := _) (v := _) rfl (by kernel_rfl) (by kernel_rfl) (by kernel_rfl) (fun _ _ _ h => h) (yieldsIf_load_mid (by rfl) 37 _ rfl gx 0 rfl X _ (fun w' h => range_ext RX6.out h lx6) Tryz.underlying37 rfl (by rw [HX.out]; kernel_rfl)) hHeld ?_
  (try simp only [Act.put, List.setIfInBounds_toArray, List.set_cons_zero, List.set_cons_succ])
  refine wpAnyH_take (i := 1) (oi := _) (v := _) rfl (by kernel_rfl) (by kernel_rfl) (by kernel_rfl) (fun _ _ _ h => h) (yieldsIf_load_mid (by rfl) 30 _ rfl g 0 rfl C _ (fun w' h => range_ext RG6.out h lg6) Tryz.underlying30 rfl (by rw [HL.out]; kernel_rfl)) hHeld ?_
  (try simp only [Act.put, List.setIfInBounds_toArray, List.set_cons_zero, List.set_cons_succ])
  refine wpAnyH_ready (rs := [2]) (by kernel_rfl) (by simp) ?_
  refine AllReadyH.cons (o := _) rfl (fun K hK => ?_) AllReadyH.nil
  go_simp
  refine (toItem_in d C _ (ItemD.inExt SI.out (he.next hHeld)) hf).mono ?_
  rintro e w7 ⟨Y, rfl, i7, h1⟩
  (try go_wp2_with fail)
  refine hK.out _ _ (hHeld.next h1) (fun hH2 => ?_)
  clear hK K
  (try simp only [Act.put, List.setIfInBounds_toArray, List.set_cons_zero, List.set_cons_succ])
  refine wpAnyH_ready (rs := [3]) (by kernel_rfl) (by simp) ?_
  refine AllReadyH.cons (o := _) rfl (fun K hK => ?_) AllReadyH.nil
  go_simp
  refine (eqItem_in d X Y _ (ItemD.inAny (ItemD.inExt i6 hH2)) (ItemD.inAny i7) hf).mono ?_
  rintro e w8 ⟨rfl, h2⟩
  (try go_wp2_with fail)
  refine hK.out _ _ (hH2.next h2) (fun hH3 => ?_)
  clear hK K
  (try simp only [Act.put, List.setIfInBounds_toArray, List.set_cons_zero, List.set_cons_succ])
  refine wpAnyH_ready (rs := [4]) (by kernel_rfl) (by simp) ?_
  refine AllReadyH.cons (o := _) rfl (fun K hK => ?_) AllReadyH.nil
  go_simp
  refine hK.out _ _ hH3 (fun hH4 => ?_)
  clear hK K
  (try simp only [Act.put, List.setIfInBounds_toArray, List.set_cons_zero, List.set_cons_succ])
  refine wpAnyH_done (by kernel_rfl) ?_ _
  go_wp2_with fail
  go_ret
  exact ⟨rfl, he.next hH4⟩

set_option maxRecDepth 100000 in
theorem ItemOk_holds : Rows.FnExactItemOkSaid :=
  lawOver (p := Tryz.pinned) (c := Rows.fnExactItemOkRow) (s := Rows.fnExactItemOkSpec) 3 Tryz.f3 4
    own laidOut (by kernel_rfl) (by kernel_rfl) rfl rfl Tryz.underlying4
    (fun H ds h => by match ds, h with | [d0, d1], _ => rfl)
    rfl rfl rfl rfl rfl rfl rfl ⟨rfl, rfl, rfl, rfl, rfl⟩ rfl rfl rfl rfl rfl (by kernel_rfl) Tryz.func3 (by kernel_rfl)
    (of_decide_eq_true (by kernel_rfl)) (by unfold Func.isWrapper; rw [if_neg (of_decide_eq_false (by kernel_rfl))]; exact ⟨rfl, rfl⟩)
    rfl rfl (fun _ _ => rfl) rfl rfl rfl rfl
    (fun os started H enc => ChangeSpec.witness6 (enc := enc) (C := Tryz.checked) false ⟨#[], #[.int .i64 0, .agg #[.int .i64 0, .int .i64 0, .int .i64 0, .string ⟨#[]⟩, .int .i64 0, .string ⟨#[]⟩, .int .i64 0, .int .i64 0, .string ⟨#[]⟩, .int .i64 0, .string ⟨#[]⟩, .int .i64 0, .string ⟨#[]⟩, .int .i64 0, .int .i64 0, .string ⟨#[]⟩, .string ⟨#[]⟩, .string ⟨#[]⟩, .string ⟨#[]⟩, .int .i64 0, .slice none 0 0, .slice none 0 0]], []⟩ 20 (by kernel_rfl) (by kernel_rfl) (by kernel_rfl) (by kernel_rfl))
    (fun W args h => by
      have hs := h.size
      obtain ⟨l⟩ := args
      match l, hs with
      | [v0, v1], _ =>
        obtain ⟨base0, n0, o0, t0⟩ := h.arg 0 3 v0 rfl rfl
        obtain ⟨base1, n1, o1, t1⟩ := h.arg 1 30 v1 rfl rfl
        obtain ⟨n, rfl⟩ := okWide_int Tryz.underlying3 o0
        obtain ⟨cs1, rfl, _⟩ := okWide_struct Tryz.underlying30 o1
        obtain ⟨d, ⟨A0, c0, A1, c1, e1, s0, s1⟩, hok⟩ := ItemD.typed t1
        obtain rfl : cs1 = #[.int .i64 d.kind, .int .i64 d.old.number, .int .i64 d.old.size, .string d.old.root, .int .i64 d.old.taken, .string d.old.takenRoot, .int .i64 d.head.number, .int .i64 d.head.size, .string d.head.root, .int .i64 d.head.taken, .string d.head.takenRoot, .int .i64 d.leaf, .string d.entry.topic, .int .i64 d.entry.index, .int .i64 d.entry.time, .string d.entry.key, .string d.entry.body, .string d.receipt.reader, .string d.receipt.topic, .int .i64 d.receipt.index, .slice A0 d.proof.length c0, .slice A1 d.more.length c1] := by have h2 : cs1.toList = [.int .i64 d.kind, .int .i64 d.old.number, .int .i64 d.old.size, .string d.old.root, .int .i64 d.old.taken, .string d.old.takenRoot, .int .i64 d.head.number, .int .i64 d.head.size, .string d.head.root, .int .i64 d.head.taken, .string d.head.takenRoot, .int .i64 d.leaf, .string d.entry.topic, .int .i64 d.entry.index, .int .i64 d.entry.time, .string d.entry.key, .string d.entry.body, .string d.receipt.reader, .string d.receipt.topic, .int .i64 d.receipt.index, .slice A0 d.proof.length c0, .slice A1 d.more.length c1] := e1; rw [← Array.toList_inj, h2]
        exact lawItemOk_walk n d A0 c0 A1 c1 W hok s0 s1 )
#print axioms ItemOk_holds
end Go.Proofs.YteaphajagmbllaaGreat

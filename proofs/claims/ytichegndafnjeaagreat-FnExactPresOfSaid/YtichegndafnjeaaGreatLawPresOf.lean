/-
  The program's PresOf returns what the reference's returns, for all arguments. Written by program (gen_lawpres.py). No condition.
-/
import Derived.Test.YtichegndafnjeaaGreatRows
import Derived.Test.YtichegndafnjeaaGreatArgs
import Derived.Test.YtichegndafnjeaaGreatPresSpec
import Derived.Test.YtichegndafnjeaaGreatMarkBase
import Derived.Test.YtichegndafnjeaaGreatConvPre
namespace Go.Proofs.YtichegndafnjeaaGreat
open Go.RowKit Go.WideShapes Go.ChangeAt
set_option linter.unusedVariables false

theorem SlF.keepBelow {α : Type} {f : α → List Value} {size B : Nat} {w w' : World} {A : Option Addr} {l : List α} {c : Nat} (h : SlF (fun b => b < B) f size w A l c) (he : Below B w w') : SlF (fun b => b < B) f size w' A l c :=
  h.keep ⟨he.size, fun b hb _ => he.block b hb⟩
theorem SlF.lt {α : Type} {p : Nat → Prop} {f : α → List Value} {size : Nat} {w : World} {A : Option Addr} {l : List α} {c : Nat} (h : SlF p f size w A l c) : SlF (fun b => b < w.heap.size) f size w A l c :=
  ⟨h.le, h.cap, h.reads, fun h0 a e => by obtain ⟨b, off, e2, hb, _⟩ := h.reads.2 h0; rw [e] at e2; cases e2; exact hb⟩
theorem ExtBut.below {g B : Nat} {w w' : World} (h : ExtBut g w w') (hB : B ≤ g) (hw : B ≤ w.heap.size) : Below B w w' := ⟨h.os, h.tape, h.output, h.size, fun b hb => h.block b (by omega) (by simp; omega)⟩
theorem ownsRow_kept {W w w' : World} {g e size n : Nat} {v : Value} {xs : List Value} (h : w.ownsRow W.heap.size e size v n xs) (k : ExtBut g w w') (hg : g < W.heap.size) : w'.ownsRow W.heap.size e size v n xs := by
  refine ⟨h.1, ?_⟩
  rcases h.2 with h1 | ⟨b, cap, cur, hv, hb, hh, hrest⟩
  · exact .inl h1
  · exact .inr ⟨b, cap, cur, hv, hb, (k.block b (Blk.lt (t := e) (cs := cur) hh) (by simp; omega)).trans hh, hrest⟩
theorem ReadsL.ext' {α : Type} {w w' : World} {size n : Nat} {f : α → List Value} {A : Option Addr} {l : List α} (h : ReadsL w w.heap.size f size A l) (he : Ext w w') (_ : l.length = n) : ReadsL w' w'.heap.size f size A l := h.ext he
theorem range_below {w w' : World} {g o B : Nat} {C : List Value} (h : w.rangeAt g o C) (he : Below B w w') (hg : g < B) : w'.rangeAt g o C := fun j v hv => (he.cell hg).trans (h j v hv)
theorem presOf_in (F : FuncId) (n : Int) (d : ItemD) (l : List PreD) (r : Bool) (hp : ∀ (A0 : Option Addr) (c0 : Nat) (A1 : Option Addr) (c1 : Nat) (w : World), SlF AnyB sone 1 w A0 d.proof c0 → SlF AnyB sone 1 w A1 d.more c1 →
    Calls Tryz.prog F #[.int .i64 n, .agg #[.int .i64 d.kind, .int .i64 d.old.number, .int .i64 d.old.size, .string d.old.root, .int .i64 d.old.taken, .string d.old.takenRoot, .int .i64 d.head.number, .int .i64 d.head.size, .string d.head.root, .int .i64 d.head.taken, .string d.head.takenRoot, .int .i64 d.leaf, .string d.entry.topic, .int .i64 d.entry.index, .int .i64 d.entry.time, .string d.entry.key, .string d.entry.body, .string d.receipt.reader, .string d.receipt.topic, .int .i64 d.receipt.index, .slice A0 d.proof.length c0, .slice A1 d.more.length c1]] w fun e w' => ∃ v, e = .returned (.tuple #[v, .bool r]) ∧ OwnP w w' v l ∧ Ext w w') (cs : List Value) (w : World) (h : ItemD.In AnyB w cs d) :
    Calls Tryz.prog F #[.int .i64 n, .agg cs.toArray] w fun e w' => ∃ v, e = .returned (.tuple #[v, .bool r]) ∧ OwnP w w' v l ∧ Ext w w' := by
  obtain ⟨A0, c0, A1, c1, rfl, s0, s1⟩ := h
  exact hp A0 c0 A1 c1 w s0 s1
set_option maxHeartbeats 8000000 in
set_option maxRecDepth 100000 in
theorem lawPresOf_walk (n : Int) (d : ItemD) (A0 : Option Addr) (c0 : Nat) (A1 : Option Addr) (c1 : Nat) (w : World) (hok : d.Ok) (s0 : SlF AnyB sone 1 w A0 d.proof c0) (s1 : SlF AnyB sone 1 w A1 d.more c1) :
    Calls Tryz.prog 4 #[.int .i64 n, .agg #[.int .i64 d.kind, .int .i64 d.old.number, .int .i64 d.old.size, .string d.old.root, .int .i64 d.old.taken, .string d.old.takenRoot, .int .i64 d.head.number, .int .i64 d.head.size, .string d.head.root, .int .i64 d.head.taken, .string d.head.takenRoot, .int .i64 d.leaf, .string d.entry.topic, .int .i64 d.entry.index, .int .i64 d.entry.time, .string d.entry.key, .string d.entry.body, .string d.receipt.reader, .string d.receipt.topic, .int .i64 d.receipt.index, .slice A0 d.proof.length c0, .slice A1 d.more.length c1]] w fun e w' => e = .returned (.bool true) ∧ Ext w w' := by
  have K0 := Blk.new w 41 #[.int .i64 d.kind, .int .i64 d.old.number, .int .i64 d.old.size, .string d.old.root, .int .i64 d.old.taken, .string d.old.takenRoot, .int .i64 d.head.number, .int .i64 d.head.size, .string d.head.root, .int .i64 d.head.taken, .string d.head.takenRoot, .int .i64 d.leaf, .string d.entry.topic, .int .i64 d.entry.index, .int .i64 d.entry.time, .string d.entry.key, .string d.entry.body, .string d.receipt.reader, .string d.receipt.topic, .int .i64 d.receipt.index, .slice A0 d.proof.length c0, .slice A1 d.more.length c1]
  have he := Ext.new (Below.refl w.heap.size w) (.cells #[.int .i64 d.kind, .int .i64 d.old.number, .int .i64 d.old.size, .string d.old.root, .int .i64 d.old.taken, .string d.old.takenRoot, .int .i64 d.head.number, .int .i64 d.head.size, .string d.head.root, .int .i64 d.head.taken, .string d.head.takenRoot, .int .i64 d.leaf, .string d.entry.topic, .int .i64 d.entry.index, .int .i64 d.entry.time, .string d.entry.key, .string d.entry.body, .string d.receipt.reader, .string d.receipt.topic, .int .i64 d.receipt.index, .slice A0 d.proof.length c0, .slice A1 d.more.length c1] 41)
  obtain ⟨C, hC⟩ : ∃ C : List Value, C = [.int .i64 d.kind, .int .i64 d.old.number, .int .i64 d.old.size, .string d.old.root, .int .i64 d.old.taken, .string d.old.takenRoot, .int .i64 d.head.number, .int .i64 d.head.size, .string d.head.root, .int .i64 d.head.taken, .string d.head.takenRoot, .int .i64 d.leaf, .string d.entry.topic, .int .i64 d.entry.index, .int .i64 d.entry.time, .string d.entry.key, .string d.entry.body, .string d.receipt.reader, .string d.receipt.topic, .int .i64 d.receipt.index, .slice A0 d.proof.length c0, .slice A1 d.more.length c1] := ⟨_, rfl⟩
  have SI := Lib.hid (show ItemD.In AnyB w C d from ⟨A0, c0, A1, c1, hC, s0, s1⟩)
  have RG := Lib.hid (show (w.alloc (.cells #[.int .i64 d.kind, .int .i64 d.old.number, .int .i64 d.old.size, .string d.old.root, .int .i64 d.old.taken, .string d.old.takenRoot, .int .i64 d.head.number, .int .i64 d.head.size, .string d.head.root, .int .i64 d.head.taken, .string d.head.takenRoot, .int .i64 d.leaf, .string d.entry.topic, .int .i64 d.entry.index, .int .i64 d.entry.time, .string d.entry.key, .string d.entry.body, .string d.receipt.reader, .string d.receipt.topic, .int .i64 d.receipt.index, .slice A0 d.proof.length c0, .slice A1 d.more.length c1] 41)).rangeAt w.heap.size 0 C by rw [hC]; exact K0.range)
  have HL := Lib.hid (ItemD.in_len SI.out)
  have Hok := Lib.hid hok; clear hok s0 s1 hC
  have lg := K0.lt; clear K0
  by_cases cz : szL d.lens 1048576 < 0
  · go_enter Tryz.func4, Tryz.ntmps4
    go_wp2_with (refine wpList_load_mid rfl 41 _ rfl w.heap.size 0 rfl C _ RG.out Tryz.underlying41 rfl (by rw [HL.out]; kernel_rfl) ?_)
    obtain ⟨g, hg⟩ : ∃ g, g = w.heap.size := ⟨_, rfl⟩
    rw [← hg] at RG lg
    rw [← hg]
    clear hg
    generalize w.alloc (.cells #[.int .i64 d.kind, .int .i64 d.old.number, .int .i64 d.old.size, .string d.old.root, .int .i64 d.old.taken, .string d.old.takenRoot, .int .i64 d.head.number, .int .i64 d.head.size, .string d.head.root, .int .i64 d.head.taken, .string d.head.takenRoot, .int .i64 d.leaf, .string d.entry.topic, .int .i64 d.entry.index, .int .i64 d.entry.time, .string d.entry.key, .string d.entry.body, .string d.receipt.reader, .string d.receipt.topic, .int .i64 d.receipt.index, .slice A0 d.proof.length c0, .slice A1 d.more.length c1] 41) = w0 at *
    refine (szItem_in d C _ _ Hok.out (ItemD.inExt SI.out he) (by decide) (by decide)).mono ?_
    rintro e w1 ⟨rfl, h1⟩
    replace he := he.next h1; clear h1
    go_wp2_with fail
    go_ret
    exact ⟨rfl, he⟩
  have hf := szL_fit (by decide) (by decide) cz
  have hsm := (presOf_small n d).1
  have SP := Lib.hid (presOf_in 13 n d (presOf n d) (itemOk n d) (fun A0 c0 A1 c1 w s0 s1 => specPresOf_any n d A0 c0 A1 c1 w Hok.out s0 s1 hf))
  have IM := Lib.hid (presOf_in 15 n d (presOf n d) (itemOk n d) (fun A0 c0 A1 c1 w s0 s1 => implPresOf_any n d A0 c0 A1 c1 w Hok.out s0 s1 hf))
  generalize itemOk n d = r0 at SP IM
  generalize presOf n d = l at SP IM hsm
  have hll : l.length ≤ 1048576 := by omega
  have ne0 : (r0 != r0) = false := by simp
  have Hf := Lib.hid hf; clear hf
  go_enter Tryz.func4, Tryz.ntmps4
  go_wp2_with (refine wpList_load_mid rfl 41 _ rfl w.heap.size 0 rfl C _ RG.out Tryz.underlying41 rfl (by rw [HL.out]; kernel_rfl) ?_)
  obtain ⟨g, hg⟩ : ∃ g, g = w.heap.size := ⟨_, rfl⟩
  rw [← hg] at RG lg
  rw [← hg]
  clear hg
  generalize w.alloc (.cells #[.int .i64 d.kind, .int .i64 d.old.number, .int .i64 d.old.size, .string d.old.root, .int .i64 d.old.taken, .string d.old.takenRoot, .int .i64 d.head.number, .int .i64 d.head.size, .string d.head.root, .int .i64 d.head.taken, .string d.head.takenRoot, .int .i64 d.leaf, .string d.entry.topic, .int .i64 d.entry.index, .int .i64 d.entry.time, .string d.entry.key, .string d.entry.body, .string d.receipt.reader, .string d.receipt.topic, .int .i64 d.receipt.index, .slice A0 d.proof.length c0, .slice A1 d.more.length c1] 41) = w0 at *
  refine (szItem_in d C _ _ Hok.out (ItemD.inExt SI.out he) (by decide) (by decide)).mono ?_
  rintro e w1 ⟨rfl, h1⟩
  have RG1 := Lib.hid (range_ext RG.out h1 lg); have lg1 := Nat.lt_of_lt_of_le lg h1.size
  replace he := he.next h1; clear h1 RG lg
  go_wp2_with (refine wpList_load_mid rfl 41 _ rfl g 0 rfl C _ RG1.out Tryz.underlying41 rfl (by rw [HL.out]; kernel_rfl) ?_)
  refine (toItem_in d C _ (ItemD.inExt SI.out he) Hf.out).mono ?_
  rintro e w2 ⟨cs, rfl, i2, h1⟩
  have RG2 := Lib.hid (range_ext RG1.out h1 lg1); have lg2 := Nat.lt_of_lt_of_le lg1 h1.size; replace he := he.next h1; clear h1 RG1 lg1
  go_wp2_with fail
  refine (SP.out cs _ (ItemD.inAny i2)).mono ?_
  rintro e w3 ⟨y, rfl, oy, h1⟩
  have RG3 := Lib.hid (range_ext RG2.out h1 lg2); have lg3 := Nat.lt_of_lt_of_le lg2 h1.size; replace he := he.next h1; clear h1 RG2 lg2 SP i2
  obtain ⟨Y, cy, rfl, sy⟩ := oy.slf
  have sy := sy.lt
  clear oy
  have hw3 := he.size
  obtain ⟨B3, hB3⟩ : ∃ B, B = w3.heap.size := ⟨_, rfl⟩
  have HB3 := Lib.hid hB3
  rw [← hB3] at sy
  clear hB3
  go_wp2_with (refine wpList_load_mid rfl 41 _ rfl g 0 rfl C _ RG3.out Tryz.underlying41 rfl (by rw [HL.out]; kernel_rfl) ?_)
  refine (toItem_rows d C _ (ItemD.inExt SI.out he) Hf.out).mono ?_
  rintro e w4 ⟨X, g0, g1, rfl, hX, tx, ⟨hg0, hg1, hn⟩, h1⟩
  have hB3 := HB3.out
  have RG4 := Lib.hid (range_ext RG3.out h1 lg3); have lg4 := Nat.lt_of_lt_of_le lg3 h1.size; replace he := he.next h1
  replace sy := SlF.keepBelow sy (h1.mono (by omega)); have hb4 : B3 ≤ w4.heap.size := by have := h1.size; omega
  have hw0 : w.heap.size ≤ g0 := by omega
  have hw1 : w.heap.size ≤ g1 := by omega
  have gl0 : g + 1 ≤ g0 := by omega
  have gl1 : g + 1 ≤ g1 := by omega
  rw [← hB3] at hg0 hg1
  clear h1 RG3 lg3 hB3 HB3 hw3
  have lt0 := tx.1.lt; have lt1 := tx.2.lt
  have i4 := ItemRows.in_ hX tx Hf.out
  have HXR := Lib.hid hX; clear hX
  have hxl := ItemD.in_len i4
  have hx1 := Lib.hid (ItemD.one i4)
  have bz := Blk.new w4 50 #[.int .i64 0, .int .i64 0, .int .i64 0, .string ⟨#[]⟩, .int .i64 0, .string ⟨#[]⟩, .int .i64 0, .int .i64 0, .string ⟨#[]⟩, .int .i64 0, .string ⟨#[]⟩, .int .i64 0, .string ⟨#[]⟩, .int .i64 0, .int .i64 0, .string ⟨#[]⟩, .string ⟨#[]⟩, .string ⟨#[]⟩, .string ⟨#[]⟩, .int .i64 0, .slice none 0 0, .slice none 0 0]
  have TH := Lib.hid (show (w4.alloc (.cells #[.int .i64 0, .int .i64 0, .int .i64 0, .string ⟨#[]⟩, .int .i64 0, .string ⟨#[]⟩, .int .i64 0, .int .i64 0, .string ⟨#[]⟩, .int .i64 0, .string ⟨#[]⟩, .int .i64 0, .string ⟨#[]⟩, .int .i64 0, .int .i64 0, .string ⟨#[]⟩, .string ⟨#[]⟩, .string ⟨#[]⟩, .string ⟨#[]⟩, .int .i64 0, .slice none 0 0, .slice none 0 0] 50)).there w4.heap.size 0 X.length by rw [hxl]; exact Blk.there bz 0 22 (by simp))
  have bx := Lib.hid (bz.put 0 X X.toArray (by simp [hxl]) (by simp [hxl]))
  clear bz
  have E45 := Lib.hid (ext_setCells (Nat.le_refl _) X 0 _ (Ext.new (Below.refl w4.heap.size w4) (.cells #[.int .i64 0, .int .i64 0, .int .i64 0, .string ⟨#[]⟩, .int .i64 0, .string ⟨#[]⟩, .int .i64 0, .int .i64 0, .string ⟨#[]⟩, .int .i64 0, .string ⟨#[]⟩, .int .i64 0, .string ⟨#[]⟩, .int .i64 0, .int .i64 0, .string ⟨#[]⟩, .string ⟨#[]⟩, .string ⟨#[]⟩, .string ⟨#[]⟩, .int .i64 0, .slice none 0 0, .slice none 0 0] 50)))
  have HX := Lib.hid hxl; clear hxl
  go_wp2_with (first | (refine wpList_store_list rfl 50 _ _ rfl rfl w4.heap.size 0 X rfl rfl TH.out (by rw [HX.out]; kernel_rfl) hx1.out ?_; clear TH; generalize (w4.alloc (.cells #[.int .i64 0, .int .i64 0, .int .i64 0, .string ⟨#[]⟩, .int .i64 0, .string ⟨#[]⟩, .int .i64 0, .int .i64 0, .string ⟨#[]⟩, .int .i64 0, .string ⟨#[]⟩, .int .i64 0, .string ⟨#[]⟩, .int .i64 0, .int .i64 0, .string ⟨#[]⟩, .string ⟨#[]⟩, .string ⟨#[]⟩, .string ⟨#[]⟩, .int .i64 0, .slice none 0 0, .slice none 0 0] 50)).setCells w4.heap.size 0 X = w5 at E45 bx ⊢) | (refine wpList_load_mid rfl 50 _ rfl w4.heap.size 0 rfl X _ (Blk.range bx.out) Tryz.underlying50 rfl (by rw [HX.out]; kernel_rfl) ?_))
  have RG5 := Lib.hid (range_ext RG4.out E45.out lg4); have lg5 := Nat.lt_of_lt_of_le lg4 E45.out.size; replace he := he.next E45.out; have i5 := ItemD.inExt i4 E45.out; have tx5 := tx.ext E45.out
  replace sy := SlF.keepBelow sy (E45.out.mono hb4)
  have hb5 : w4.heap.size ≤ w5.heap.size := E45.out.size
  clear RG4 lg4 i4 tx
  have lx := bx.out.lt; have RX := Lib.hid (Blk.range bx.out)
  obtain ⟨gx, hgx⟩ : ∃ gx, gx = w4.heap.size := ⟨_, rfl⟩
  rw [← hgx] at lx RX lt0 lt1 hb4 hb5
  rw [← hgx]
  clear hgx E45 bx
  refine (IM.out X _ (ItemD.inAny i5)).mono ?_
  rintro e w6 ⟨x, rfl, ox, h1⟩
  have RG6 := Lib.hid (range_ext RG5.out h1 lg5); have lg6 := Nat.lt_of_lt_of_le lg5 h1.size; have RX6 := Lib.hid (range_ext RX.out h1 lx); have lx6 := Nat.lt_of_lt_of_le lx h1.size; replace he := he.next h1; have i6 := ItemD.inExt i5 h1; have tx6 := tx5.ext h1
  replace sy := SlF.keepBelow sy (h1.mono (by omega))
  have E56 := h1
  clear h1 RG5 RX i5 tx5
  obtain ⟨XS, cx, rfl, sx⟩ := ox.slf
  go_wp2_with fail
  refine (eqPreS_same XS Y cx cy l _ sx.reads sy.reads hll).mono ?_
  rintro e w7 ⟨rfl, h1⟩
  have RG7 := Lib.hid (range_ext RG6.out h1 lg6); have lg7 := Nat.lt_of_lt_of_le lg6 h1.size; have RX7 := Lib.hid (range_ext RX6.out h1 lx6); have lx7 := Nat.lt_of_lt_of_le lx6 h1.size; replace he := he.next h1; have i7 := ItemD.inExt i6 h1; have tx7 := tx6.ext h1
  replace sy := SlF.keepBelow sy (h1.mono (by have := E56.size; omega)); replace sx := sx.ext h1; replace ox := OwnF.ext ox h1; replace E56 := E56.next h1
  clear h1 RG6 RX6 lx6 i6 tx6 lg6
  go_wp2_with fail
  refine wp_region_held_drew (S := fun w' => Ext w7 w') (by kernel_rfl) ⟨rfl, rfl, rfl, Nat.le_refl _, fun _ _ => rfl⟩ (fun hHeld => ?_)
  refine wpAnyH_take (i := 0) (oi := _) (v := _) rfl (by kernel_rfl) (by kernel_rfl) (by kernel_rfl) (fun _ _ _ h => h) (yieldsIf_load_mid (by rfl) 50 _ rfl gx 0 rfl X _ (fun w' h => range_ext RX7.out h lx7) Tryz.underlying50 rfl (by rw [HX.out]; kernel_rfl)) hHeld ?_
  (try simp only [Act.put, List.setIfInBounds_toArray, List.set_cons_zero, List.set_cons_succ])
  refine wpAnyH_take (i := 1) (oi := _) (v := _) rfl (by kernel_rfl) (by kernel_rfl) (by kernel_rfl) (fun _ _ _ h => h) (yieldsIf_load_mid (by rfl) 41 _ rfl g 0 rfl C _ (fun w' h => range_ext RG7.out h lg7) Tryz.underlying41 rfl (by rw [HL.out]; kernel_rfl)) hHeld ?_
  (try simp only [Act.put, List.setIfInBounds_toArray, List.set_cons_zero, List.set_cons_succ])
  refine wpAnyH_ready (rs := [2]) (by kernel_rfl) (by simp) ?_
  refine AllReadyH.cons (o := _) rfl (fun K hK => ?_) AllReadyH.nil
  go_simp
  refine (toItem_in d C _ (ItemD.inExt SI.out (he.next hHeld)) Hf.out).mono ?_
  rintro e w8 ⟨Z, rfl, i8, h1⟩
  (try go_wp2_with fail)
  refine hK.out _ _ (hHeld.next h1) (fun hH2 => ?_)
  clear hK K
  (try simp only [Act.put, List.setIfInBounds_toArray, List.set_cons_zero, List.set_cons_succ])
  refine wpAnyH_ready (rs := [3]) (by kernel_rfl) (by simp) ?_
  refine AllReadyH.cons (o := _) rfl (fun K hK => ?_) AllReadyH.nil
  go_simp
  refine (eqItem_in d X Z _ (ItemD.inAny (ItemD.inExt i7 hH2)) (ItemD.inAny i8) Hf.out).mono ?_
  rintro e w9 ⟨rfl, h2⟩
  (try go_wp2_with fail)
  refine hK.out _ _ (hH2.next h2) (fun hH3 => ?_)
  clear hK K
  (try simp only [Act.put, List.setIfInBounds_toArray, List.set_cons_zero, List.set_cons_succ])
  refine wpAnyH_ready (rs := [4]) (by kernel_rfl) (by simp) ?_
  refine AllReadyH.cons (o := _) rfl (fun K hK => ?_) AllReadyH.nil
  go_simp
  refine hK.out _ _ hH3 (fun h1 => ?_)
  clear hK K hHeld hH2 hH3 i8 h2
  (try simp only [Act.put, List.setIfInBounds_toArray, List.set_cons_zero, List.set_cons_succ])
  refine wpAnyH_done (by kernel_rfl) ?_ _
  rename_i w10 _
  have hB7 : B3 ≤ w7.heap.size := by have := E56.size; omega
  have RGa := Lib.hid (range_ext RG7.out h1 lg7)
  have RXa := Lib.hid (range_ext RX7.out h1 lx7)
  replace he := he.next h1; have txa := tx7.ext h1
  replace sy := SlF.keepBelow sy (h1.mono hB7); replace sx := sx.ext h1; replace ox := OwnF.ext ox h1; replace E56 := E56.next h1
  clear h1 RG7 RX7 tx7 i7
  go_wp2_with (refine wpList_load_mid rfl 50 _ rfl gx 0 rfl X _ RXa.out Tryz.underlying50 rfl (by rw [HX.out]; kernel_rfl) ?_)
  refine (markItem_any X d g0 g1 _ HXR.out txa hn Hf.out).mono ?_
  rintro e w11 ⟨k, rfl, wm, k1, k2⟩
  have hs10 := E56.size
  have k1s := k1.size; have k2s := k2.size
  have g0lt : g0 < w5.heap.size := by omega
  have g1lt : g1 < w5.heap.size := by omega
  replace sy := SlF.keepBelow (SlF.keepBelow sy (k1.below hg0 (by omega))) (k2.below hg1 (by omega))
  replace sx := sx.keep (w' := wm) ⟨k1.size, fun b hb hb2 => k1.block b hb2 (by unfold FromB at hb; simp; omega)⟩
  replace sx := sx.keep (w' := w11) ⟨k2.size, fun b hb hb2 => k2.block b hb2 (by unfold FromB at hb; simp; omega)⟩
  have ox1 : OwnF PreD.cells 2 25 w5 wm (.slice XS l.length cx) l := ownsRow_kept ox k1 g0lt
  have ox2 : OwnF PreD.cells 2 25 w5 w11 (.slice XS l.length cx) l := ownsRow_kept ox1 k2 g1lt
  have RGb := Lib.hid (range_below (range_below RGa.out (k1.below (B := g + 1) gl0 (by omega)) (by omega)) (k2.below (B := g + 1) gl1 (by omega)) (by omega))
  replace he := (he.nextBut hw0 k1).nextBut hw1 k2
  have hs11 : w5.heap.size ≤ w11.heap.size := by omega
  clear k1 k2 ox ox1 txa RGa RXa hs10 k1s k2s E56
  have q0 : (0 : Int) ≤ ((k : Nat) : Int) := by omega
  go_wp2_with fail
  refine (eqPreS_same XS Y cx cy l _ sx.reads sy.reads hll).mono ?_
  rintro e w12 ⟨rfl, h1⟩
  have RGc := Lib.hid (range_ext RGb.out h1 (by omega))
  replace he := he.next h1; replace ox2 := OwnF.ext ox2 h1; replace sy := SlF.keepBelow sy (h1.mono (by omega)); have hs12 := Nat.le_trans hs11 h1.size; clear h1 sx RGb
  go_wp2_with fail
  refine (markPreS_own ox2 hs12 hll).mono ?_
  rintro e w13 ⟨rfl, ⟨X', cx', hX, rx⟩, h1⟩
  obtain ⟨rfl, rfl⟩ : XS = X' ∧ cx = cx' := by simpa using hX
  have RGd := Lib.hid (range_below RGc.out h1 (by omega))
  have hs13 := Nat.le_trans hs12 h1.size
  replace sy := SlF.keepBelow sy (h1.mono (by omega))
  replace he : Ext w w13 := he.trans (h1.mono (by omega))
  clear h1 ox2 hX RGc
  have q1 : (0 : Int) ≤ ((1 + l.length * 2 : Nat) : Int) := by omega
  go_wp2_with fail
  refine (heldPreS_any XS l.length cx 1 _ rx hll (by decide)).mono ?_
  rintro e w14 ⟨rfl, h1⟩
  have RGe := Lib.hid (range_ext RGd.out h1 (by omega)); have hs14 := Nat.le_trans hs13 h1.size
  replace he := he.next h1; replace sy := SlF.keepBelow sy (h1.mono (by omega)); replace rx := ReadsL.ext' rx h1 (PreD.mkL_len _ _); clear h1 RGd
  go_wp2_with (refine wpList_load_mid rfl 41 _ rfl g 0 rfl C _ RGe.out Tryz.underlying41 rfl (by rw [HL.out]; kernel_rfl) ?_)
  refine (toItem_in d C _ (ItemD.inExt SI.out he) Hf.out).mono ?_
  rintro e w15 ⟨c2, rfl, i15, h1⟩
  have hs15 := Nat.le_trans hs14 h1.size
  replace he := he.next h1; replace sy := SlF.keepBelow sy (h1.mono (by omega)); replace rx := ReadsL.ext' rx h1 (PreD.mkL_len _ _); clear h1 RGe
  go_wp2_with fail
  refine (IM.out c2 _ (ItemD.inAny i15)).mono ?_
  rintro e w16 ⟨z, rfl, oz, h1⟩
  replace he := he.next h1; replace sy := SlF.keepBelow sy (h1.mono (by omega)); replace rx := ReadsL.ext' rx h1 (PreD.mkL_len _ _); clear h1
  obtain ⟨Z, cz2, rfl, sz⟩ := oz.slf
  go_wp2_with fail
  refine (eqPreS_same Z Y cz2 cy l _ sz.reads sy.reads hll).mono ?_
  rintro e w17 ⟨rfl, h1⟩
  replace he := he.next h1; replace rx := ReadsL.ext' rx h1 (PreD.mkL_len _ _); clear h1 oz sz sy
  go_wp2_with fail
  refine (heldPreS_any XS l.length cx 1 _ rx hll (by decide)).mono ?_
  rintro e w18 ⟨rfl, h1⟩
  replace he := he.next h1
  go_wp2_with fail
  go_ret
  exact ⟨rfl, he⟩

set_option maxRecDepth 100000 in
theorem PresOf_holds : Rows.FnExactPresOfSaid :=
  lawOver (p := Tryz.pinned) (c := Rows.fnExactPresOfRow) (s := Rows.fnExactPresOfSpec) 4 Tryz.f4 4
    own laidOut (by kernel_rfl) (by kernel_rfl) rfl rfl Tryz.underlying4
    (fun H ds h => by match ds, h with | [d0, d1], _ => rfl)
    rfl rfl rfl rfl rfl rfl rfl ⟨rfl, rfl, rfl, rfl, rfl⟩ rfl rfl rfl rfl rfl (by kernel_rfl) Tryz.func4 (by kernel_rfl)
    (of_decide_eq_true (by kernel_rfl)) (by unfold Func.isWrapper; rw [if_neg (of_decide_eq_false (by kernel_rfl))]; exact ⟨rfl, rfl⟩)
    rfl rfl (fun _ _ => rfl) rfl rfl rfl rfl
    (fun os started H enc => ChangeSpec.witness6 (enc := enc) (C := Tryz.checked) false ⟨#[], #[.int .i64 0, .agg #[.int .i64 0, .int .i64 0, .int .i64 0, .string ⟨#[]⟩, .int .i64 0, .string ⟨#[]⟩, .int .i64 0, .int .i64 0, .string ⟨#[]⟩, .int .i64 0, .string ⟨#[]⟩, .int .i64 0, .string ⟨#[]⟩, .int .i64 0, .int .i64 0, .string ⟨#[]⟩, .string ⟨#[]⟩, .string ⟨#[]⟩, .string ⟨#[]⟩, .int .i64 0, .slice none 0 0, .slice none 0 0]], []⟩ 20 (by kernel_rfl) (by kernel_rfl) (by kernel_rfl) (by kernel_rfl))
    (fun W args h => by
      have hs := h.size
      obtain ⟨l⟩ := args
      match l, hs with
      | [v0, v1], _ =>
        obtain ⟨base0, n0, o0, t0⟩ := h.arg 0 3 v0 rfl rfl
        obtain ⟨base1, n1, o1, t1⟩ := h.arg 1 41 v1 rfl rfl
        obtain ⟨n, rfl⟩ := okWide_int Tryz.underlying3 o0
        obtain ⟨cs1, rfl, _⟩ := okWide_struct Tryz.underlying41 o1
        obtain ⟨d, ⟨A0, c0, A1, c1, e1, s0, s1⟩, hok⟩ := ItemD.typed t1
        obtain rfl : cs1 = #[.int .i64 d.kind, .int .i64 d.old.number, .int .i64 d.old.size, .string d.old.root, .int .i64 d.old.taken, .string d.old.takenRoot, .int .i64 d.head.number, .int .i64 d.head.size, .string d.head.root, .int .i64 d.head.taken, .string d.head.takenRoot, .int .i64 d.leaf, .string d.entry.topic, .int .i64 d.entry.index, .int .i64 d.entry.time, .string d.entry.key, .string d.entry.body, .string d.receipt.reader, .string d.receipt.topic, .int .i64 d.receipt.index, .slice A0 d.proof.length c0, .slice A1 d.more.length c1] := by have h2 : cs1.toList = [.int .i64 d.kind, .int .i64 d.old.number, .int .i64 d.old.size, .string d.old.root, .int .i64 d.old.taken, .string d.old.takenRoot, .int .i64 d.head.number, .int .i64 d.head.size, .string d.head.root, .int .i64 d.head.taken, .string d.head.takenRoot, .int .i64 d.leaf, .string d.entry.topic, .int .i64 d.entry.index, .int .i64 d.entry.time, .string d.entry.key, .string d.entry.body, .string d.receipt.reader, .string d.receipt.topic, .int .i64 d.receipt.index, .slice A0 d.proof.length c0, .slice A1 d.more.length c1] := e1; rw [← Array.toList_inj, h2]
        exact lawPresOf_walk n d A0 c0 A1 c1 W hok s0 s1 )
#print axioms PresOf_holds
end Go.Proofs.YtichegndafnjeaaGreat

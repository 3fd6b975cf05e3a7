/-
  Heads read back from texts; the program: a walk. Written by program (gen_reopen1.py). No condition.
  A map of the call's own, from texts to numbers: what it holds, as a plain function. No condition.
  A map of the call's own, from receipts to numbers: what it holds, as a plain function. No condition.
-/
import Derived.Test.YtlgdghpnfclgpaaGreatHeadRead
import Derived.Test.YtlgdghpnfclgpaaGreatReadHd
import Derived.Test.YtlgdghpnfclgpaaGreatBroker0
import Derived.Test.YtlgdghpnfclgpaaGreatNest
import Derived.Maps.OwnSet
import Derived.Test.YtlgdghpnfclgpaaGreatLeaf
import Derived.Test.YtlgdghpnfclgpaaGreatPath
import Derived.DeepKeys4
namespace Go.Proofs.YtlgdghpnfclgpaaGreat
set_option linter.unusedSimpArgs false
open Go.RowKit
set_option linter.unusedVariables false
theorem info_head : (Tryz.prog.info? 55).map (fun i => (i.zero, i.size, i.bytes)) = some (some (.agg #[.int .i64 0, .int .i64 0, .string ⟨#[]⟩, .int .i64 0, .string ⟨#[]⟩]), 5, 56) := by kernel_rfl
set_option maxHeartbeats 4000000 in
set_option maxRecDepth 100000 in
theorem headsOf_any (n : Int) (A : Option Addr) (c : Nat) (l : List ByteArray) (w : World) (hr : ReadsL w w.heap.size sone 1 A l) (hl : l.length ≤ 1048576) (hsz : ∀ x ∈ l, x.size ≤ 1099511627776) :
 Calls Tryz.prog 81 #[.int .i64 n, .slice A l.length c] w fun e w' => Ext w w' ∧ ((l.all (hrImpl n) = false ∧ e = .returned (.tuple #[.slice none 0 0, .bool false])) ∨ (l.all (hrImpl n) = true ∧ ∃ v, e = .returned (.tuple #[v, .bool true]) ∧ w'.ownsRow w.heap.size 55 5 v (l.length + 1) ((newH (inR n 1 32) n :: l.map (hrD n)).flatMap HeadD.cells))) := by
 obtain ⟨i0, hi, hz0, hz1, hz2⟩ := info_parts info_head
 have HR := Lib.hid hr; have Hsz := Lib.hid hsz
 clear hr hsz
 obtain ⟨h, hh⟩ : ∃ h, h = newH (inR n 1 32) n := ⟨_, rfl⟩
 rw [← hh]
 have Hh := Lib.hid hh
 clear hh
 go_enter Tryz.func81, Tryz.ntmps81
 go_wp2_with fail
 refine (implHeadNew_any n _).mono ?_
 rintro e w1 ⟨he1, h1⟩
 rw [← Hh.out] at he1
 subst he1
 have he := h1
 have hs1 := h1.size
 clear h1
 go_upto_region 2 with fail
 have hD := Blk.new w1 55 #[.int .i64 h.number, .int .i64 h.size, .string h.root, .int .i64 h.taken, .string h.takenRoot]
 replace he := he.new (.cells #[.int .i64 h.number, .int .i64 h.size, .string h.root, .int .i64 h.taken, .string h.takenRoot] 55)
 obtain ⟨g2, hg2⟩ : ∃ g2, g2 = w1.heap.size := ⟨_, rfl⟩
 rw [← hg2] at hD hs1
 rw [← hg2]
 clear hg2
 obtain ⟨w2, hw2⟩ : ∃ w2, w2 = w1.alloc (.cells #[.int .i64 h.number, .int .i64 h.size, .string h.root, .int .i64 h.taken, .string h.takenRoot] 55) := ⟨_, rfl⟩
 rw [← hw2] at hD he
 rw [← hw2]
 clear hw2
 obtain ⟨dc, df⟩ := hD.rules
 have hws2 := he.size
 have hgl2 := hD.lt
 have K3 := Lib.hid ((Blk.new w2 55 #[.int .i64 h.number, .int .i64 h.size, .string h.root, .int .i64 h.taken, .string h.takenRoot]).ownsRow (xs := h.cells) 1 5 w.heap.size hws2 rfl (by unfold maxLen; omega))
 have He3 := Lib.hid (he.new (.cells #[.int .i64 h.number, .int .i64 h.size, .string h.root, .int .i64 h.taken, .string h.takenRoot] 55))
 clear he hD
 go_wp2_with fail
 go_loopw [8, 22] (fun v i wr => ∃ k : Nat, k ≤ l.length ∧ i = .int .i64 k ∧ (∀ x ∈ l.take k, hrImpl n x = true) ∧ wr.ownsRow w.heap.size 55 5 v (k + 1) ((h :: (l.take k).map (hrD n)).flatMap HeadD.cells) ∧ Ext w wr) (fun _ i _ => l.length - (intOf i).toNat)
 case atStart => exact ⟨0, Nat.zero_le _, rfl, by simp, by simpa using K3.out, He3.out⟩
 case round =>
  clear K3 He3 dc df hws2 hgl2
  obtain ⟨k, hk, rfl, hall, hown, he⟩ := hrel
  obtain ⟨V, cv, rfl, hnc⟩ := ownsRow_form hown
  have KO := Lib.hid hown; have HA := Lib.hid hall
  clear hown hall
  by_cases hlt : k < l.length
  case neg =>
   obtain rfl : k = l.length := by omega
   have E := Lib.hid (show l.all (hrImpl n) = true by rw [List.all_eq_true]; have := HA.out; rwa [List.take_length] at this)
   have KO2 := Lib.hid (show _ from by have := KO.out; rwa [List.take_length] at this)
   go_wp2_with fail
   go_ret2
   exact ⟨he, Or.inr ⟨E.out, _, rfl, KO2.out⟩⟩
  obtain ⟨x, hx⟩ : ∃ x, l[k]? = some x := ⟨l[k], List.getElem?_eq_getElem hlt⟩
  obtain ⟨b, off, rfl, hb, c0⟩ := texts_cell (HR.out.ext he) hx
  have hxs := Hsz.out x (List.mem_of_getElem? hx)
  have X := Lib.hid hx
  clear hx
  go_wp2_with fail
  refine (implReadHead_any n x _ hxs).mono ?_
  rintro e w1 ⟨rfl, h1⟩
  replace he := he.next h1; replace KO := Lib.hid (ownsRow_ext KO.out h1)
  clear h1 c0
  cases p1 : hrImpl n x
  · have E := Lib.hid (show l.all (hrImpl n) = false by rw [List.all_eq_false]; exact ⟨x, List.mem_of_getElem? X.out, by rw [p1]; simp⟩)
    simp only [hrRes, hrOut, HeadD.cells, Bool.false_eq_true, if_false]
    go_wp2_with fail
    go_ret2
    exact ⟨he.new _, Or.inl ⟨E.out, rfl⟩⟩
  obtain ⟨d, hd⟩ : ∃ d, d = hrD n x := ⟨_, rfl⟩
  rw [← hd]
  have HD := Lib.hid hd
  clear hd
  simp only [hrRes, hrOut, HeadD.cells, if_true]
  go_upto_region 7 with fail
  have kd := Blk.new w1 55 #[.int .i64 d.number, .int .i64 d.size, .string d.root, .int .i64 d.taken, .string d.takenRoot]
  have hx1 := Ext.new (Below.refl w1.heap.size w1) (.cells #[.int .i64 d.number, .int .i64 d.size, .string d.root, .int .i64 d.taken, .string d.takenRoot] 55)
  replace he := he.next hx1; replace KO := Lib.hid (ownsRow_ext KO.out hx1)
  obtain ⟨q, hq⟩ : ∃ q, q = w1.heap.size := ⟨_, rfl⟩
  rw [← hq] at kd
  rw [← hq]
  have hqw := kd.lt
  have hs1 := hq
  clear hq hx1
  obtain ⟨w2, hw2⟩ : ∃ w2, w2 = w1.alloc (.cells #[.int .i64 d.number, .int .i64 d.size, .string d.root, .int .i64 d.taken, .string d.takenRoot] 55) := ⟨_, rfl⟩
  rw [← hw2] at kd he KO hqw
  have hs2 : w2.heap.size = q + 1 := by rw [hw2, World.size_alloc, hs1]
  rw [← hw2]
  have HS2 := Lib.hid hs2
  clear hw2 hs1 hs2
  obtain ⟨rq, fq⟩ := kd.rules
  have hws := he.size
  go_wp2_with (at_builtin; refine wpList_append_moved _ rfl _ _ 53 rfl w.heap.size 55 i0 (.agg #[.int .i64 0, .int .i64 0, .string ⟨#[]⟩, .int .i64 0, .string ⟨#[]⟩]) 5 56 Tryz.underlying53 hi hz0 hz1 hz2 rfl (by decide) _ _ _ rfl (KO.out.alloc _) ⟨w2.heap.size, 0, none⟩ 1 1 (#[.int .i64 d.number, .int .i64 d.size, .string d.root, .int .i64 d.taken, .string d.takenRoot] : Array Value).toList rfl rfl ?c1 ?c2 ?c3 ?c4 ?c5 ?_)
  case c2 => exact ⟨rfl, rfl, rfl, rfl, rfl⟩
  case c3 => unfold maxLen; omega
  case c4 => omega
  case c5 => simp; omega
  intro v' w3 hown' hfrm hmv
  have L0 := Lib.hid KO.out.lt
  have he2 : Ext w w3 := hfrm.toExt (he.new _) (fun y hy e => by have := (L0.out _ e).1; omega)
  obtain ⟨hkl, hkd⟩ := List.getElem?_eq_some_iff.1 X.out
  have e2 : (h :: (l.take k).map (hrD n)).flatMap HeadD.cells ++ HeadD.cells d = (h :: (l.take (k + 1)).map (hrD n)).flatMap HeadD.cells := by rw [List.take_succ_eq_append_getElem hkl, hkd, HD.out]; simp
  have O2 := Lib.hid (show w3.ownsRow w.heap.size 55 5 v' (k + 1 + 1) ((h :: (l.take (k + 1)).map (hrD n)).flatMap HeadD.cells) by rw [← e2, List.map_take]; exact hown')
  have HA2 := Lib.hid (show ∀ y ∈ l.take (k + 1), hrImpl n y = true from fun y hy => by
   rw [List.take_succ_eq_append_getElem hkl, List.mem_append] at hy
   rcases hy with hy | hy
   · exact HA.out y hy
   · obtain rfl := List.mem_singleton.1 hy
     rw [hkd]; exact p1)
  clear hown' hfrm hmv L0 hkd e2 KO he rq fq p1
  go_wp2_with fail
  go_roundw
  case rel => exact ⟨k + 1, by omega, by go_num, HA2.out, O2.out, he2⟩
  case measure => simp [intOf]; omega
end Go.Proofs.YtlgdghpnfclgpaaGreat
namespace Go.Proofs.YtlgdghpnfclgpaaGreat
set_option linter.unusedSimpArgs false
open Go.RowKit Go.WideMaps Go.Maps
set_option linter.unusedVariables false
theorem mapKeyed : Keyed Tryz.prog 9 := string_keyed Tryz.underlying9
theorem mapZero (w : World) : (zeroValue 3).run Tryz.prog w = .ok (.int .i64 0) w := by kernel_rfl
def skey (s : ByteArray) : Lit := .string s.data.toList
theorem skey_inj {s t : ByteArray} (h : skey s = skey t) : s = t := by
 simp only [skey, Lit.string.injEq] at h
 exact ByteArray.ext (Array.toList_inj.1 h)
def MapAt (w : World) (B n : Nat) (f : ByteArray → Option Nat) : Prop :=
 ∃ D : DataW Unit, w.ownsMap Tryz.prog 9 (plainElem Tryz.prog 3) B n D ∧ ∀ s, Maps.has D (skey s) = (f s).isSome ∧ D.atKey (skey s) (.lit (.int .i64 0)) = .lit (.int .i64 (((f s).getD 0 : Nat) : Int))
theorem MapAt.made (w : World) : MapAt (w.alloc (.map #[] 0)) w.heap.size 0 (fun _ => none) :=
 ⟨.map [], World.ownsMap_made _ _ _ _, fun s => ⟨rfl, rfl⟩⟩
theorem MapAt.lt {w : World} {B n : Nat} {f : ByteArray → Option Nat} (h : MapAt w B n f) : B < w.heap.size := by obtain ⟨D, h, _⟩ := h; exact h.lt
theorem ownsMap_ext {H : Type} {P : Program} {k : TypeId} {R : Value → Option (DataW H × List MemPlace)} {w w' : World} {B n : Nat} {D : DataW H} (h : w.ownsMap P k R B n D) (he : Ext w w') : w'.ownsMap P k R B n D := by
 have hlt := h.lt
 obtain ⟨es, clock, hb, r⟩ := h
 exact ⟨es, clock, (he.block B hlt).trans hb, r⟩
theorem MapAt.ext {w w' : World} {B n : Nat} {f : ByteArray → Option Nat} (h : MapAt w B n f) (he : Ext w w') : MapAt w' B n f := by
 obtain ⟨D, h, k⟩ := h
 exact ⟨D, ownsMap_ext h he, k⟩
theorem MapAt.mono {w : World} {B n m : Nat} {f : ByteArray → Option Nat} (h : MapAt w B n f) (hm : n ≤ m) : MapAt w B m f := by
 obtain ⟨D, h, k⟩ := h
 exact ⟨D, h.mono hm, k⟩
theorem MapAt.look {w : World} {B n : Nat} {f : ByteArray → Option Nat} (h : MapAt w B n f) (s : ByteArray) (hs : s.size ≤ maxLen) : (Instr.lookup 191 (.map (some B)) (.string s) true).run Tryz.prog w = .ok (.tuple #[.int .i64 (((f s).getD 0 : Nat) : Int), .bool (f s).isSome]) w := by
 obtain ⟨D, h, k⟩ := h
 obtain ⟨v, ps, hrun, hv⟩ := h.look_ok mapKeyed Tryz.underlying191 (mapZero w) (plainElem_int Tryz.underlying3 (by decide)) (keyOf_string_mk Tryz.underlying9 hs)
 obtain ⟨c, rfl, hc, _⟩ := plainElem_int_inv Tryz.underlying3 hv
 have h2 := (k s).2
 have h1 := (k s).1
 simp only [Prod.mk.injEq] at hc
 rw [show (Lit.string s.data.toList) = skey s from rfl] at hc hrun
 rw [hc.1] at h2
 simp only [DataW.lit.injEq, Lit.int.injEq, true_and] at h2
 rw [hrun, h1, h2]
theorem MapAt.look1 {w : World} {B n : Nat} {f : ByteArray → Option Nat} (h : MapAt w B n f) (s : ByteArray) (hs : s.size ≤ maxLen) : (Instr.lookup 191 (.map (some B)) (.string s) false).run Tryz.prog w = .ok (.int .i64 (((f s).getD 0 : Nat) : Int)) w := by
 obtain ⟨D, h, k⟩ := h
 obtain ⟨c, hrun, hc, _⟩ := h.lookup_int mapKeyed Tryz.underlying191 Tryz.underlying3 (mapZero w) (keyOf_string_mk Tryz.underlying9 hs)
 have h2 := (k s).2
 rw [show (Lit.string s.data.toList) = skey s from rfl] at hc
 rw [hc] at h2
 simp only [DataW.lit.injEq, Lit.int.injEq, true_and] at h2
 rw [hrun, h2]
def fput (f : ByteArray → Option Nat) (s : ByteArray) (m : Nat) : ByteArray → Option Nat := fun t => if t = s then some m else f t
theorem MapAt.put {w' : World} {B n m : Nat} {f : ByteArray → Option Nat} {s : ByteArray} {D : DataW Unit} (hD : ∀ s, Maps.has D (skey s) = (f s).isSome ∧ D.atKey (skey s) (.lit (.int .i64 0)) = .lit (.int .i64 (((f s).getD 0 : Nat) : Int)))
 (hm : IsMap D) (h' : w'.ownsMap Tryz.prog 9 (plainElem Tryz.prog 3) B (n + 1) (D.put (skey s) (.lit (.int .i64 (m : Int))))) : MapAt w' B (n + 1) (fput f s m) := by
 refine ⟨_, h', fun t => ?_⟩
 unfold fput
 by_cases e : t = s
 · subst e
   simp only [if_true, Option.isSome_some, Option.getD_some]
   exact ⟨has_put_same hm (show WideAt.IsKeyLit (.string _) from trivial) _, atKey_put_same hm (show WideAt.IsKeyLit (.string _) from trivial) _ _⟩
 · have hne : skey t ≠ skey s := fun h => e (skey_inj h)
   rw [if_neg e, has_put_other hne, atKey_put_other hne]
   exact hD t
theorem wpList_store_at (w : World) {ops : Array Oper} {rest : List Oper} {o : Oper} {a : Act} {Q : Exit → Act → World → Prop} (hg : o.guard = none) (m x v : Operand) (hop : o.op = Op.mapUpdate 191 m x v) (B n q : Nat) (s : ByteArray) (f : ByteArray → Option Nat)
 (hm : a.eval m = .map (some B)) (hown : MapAt w B n f) (hn : n < maxLen) (hx : a.eval x = .string s) (hv : a.eval v = .int .i64 (q : Int)) (hs : s.size ≤ maxLen) (hq : q ≤ 1099511627776)
 (hK : ∀ w', MapAt w' B (n + 1) (fput f s q) → w.grownBy w' (some B) → wpList Tryz.prog ops Q rest (a.put o.dst undef) w') : wpList Tryz.prog ops Q (o :: rest) a w := by
 obtain ⟨D, h, k⟩ := hown
 have wf : (Lit.int .i64 (q : Int)).wf = true := WalkArith.wf_i64 (by omega)
 exact wpList_mapUpdate_own w hg m x v 191 hop 9 3 mapKeyed Tryz.underlying191 _ B n D hm h hn _ _ _ hx hv (keyOf_string_mk Tryz.underlying9 hs) _ [] (plainElem_int Tryz.underlying3 wf) (fun w' h1 h2 => hK w' (MapAt.put k h.isMap h1) h2)
theorem Blk.grown {w w' : World} {g : Nat} {t : TypeId} {cs : Array Value} {row : Option Nat} (h : Blk w g t cs) (hg : w.grownBy w' row) (hne : some g ≠ row) : Blk w' g t cs := (hg.block g h.lt hne).trans h
theorem Ext.mapGrown {W w w' : World} {B : Nat} (he : Ext W w) (hg : w.grownBy w' (some B)) (hB : W.heap.size ≤ B) : Ext W w' := Below.grown he hg he.size (fun k hk => by cases hk; exact hB)
end Go.Proofs.YtlgdghpnfclgpaaGreat
namespace Go.Proofs.YtlgdghpnfclgpaaGreat
set_option linter.unusedSimpArgs false
open Go.RowKit Go.WideMaps Go.Maps
set_option linter.unusedVariables false
theorem recKeyed : Keyed Tryz.prog 77 := Keyed.of_law (deep_law_laid (by kernel_rfl) (m := 2) (by omega) (of_decide_eq_true (by kernel_rfl)) (by kernel_rfl) (by rw [Tryz.underlying77]))
def rval (d : ReceiptD) : Value := .agg #[.string d.reader, .string d.topic, .int .i64 d.index]
theorem rval_inj {a b : ReceiptD} (h : rval a = rval b) : a = b := by
 obtain ⟨a1, a2, a3⟩ := a
 obtain ⟨b1, b2, b3⟩ := b
 simpa [rval] using h
set_option maxRecDepth 100000 in
theorem rec_key (d : ReceiptD) (hd : d.Ok) : ∃ l, keyOf Tryz.prog 77 (rval d) = some l := by
 obtain ⟨h1, h2, h3⟩ := hd
 obtain ⟨m, hm⟩ : ∃ m, Tryz.prog.types.size = m + 1 := ⟨_, rfl⟩
 have k1 : Tryz.prog.keyType 77 = true := by kernel_rfl
 have k2 : Tryz.prog.cellsOf 77 = 3 := by kernel_rfl
 have k3 : Tryz.prog.cellsOf 3 = 1 := by kernel_rfl
 have k4 : Tryz.prog.cellsOf 9 = 1 := by kernel_rfl
 have k5 : (rval d).formed Tryz.prog 77 = true := by simp [rval, Value.formed, Tryz.underlying77, k2]
 unfold keyOf
 rw [Tryz.underlying77]
 simp only [k1, k5, Bool.and_self, if_true, hm]
 simp [Program.keyLits, Tryz.underlying77, Tryz.underlying3, Tryz.underlying9, k2, k3, k4, rval, Value.cells, h1, h2, h3]
noncomputable def rkey (d : ReceiptD) : Lit := (keyOf Tryz.prog 77 (rval d)).getD (.bool false)
set_option maxRecDepth 100000 in
theorem rkey_of (d : ReceiptD) (hd : d.Ok) : keyOf Tryz.prog 77 (rval d) = some (rkey d) := by
 obtain ⟨l, h⟩ := rec_key d hd
 rw [rkey, h]; rfl
set_option maxRecDepth 100000 in
theorem rkey_lit (d : ReceiptD) (hd : d.Ok) : WideAt.IsKeyLit (rkey d) := recKeyed.key (rkey_of d hd)
set_option maxRecDepth 100000 in
theorem rkey_inj {a b : ReceiptD} (ha : a.Ok) (hb : b.Ok) (h : rkey a = rkey b) : a = b :=
 rval_inj (recKeyed.inj (rkey_of a ha) (by rw [h]; exact rkey_of b hb))
def MapAtR (w : World) (B n : Nat) (f : ReceiptD → Option Nat) : Prop :=
 ∃ D : DataW Unit, w.ownsMap Tryz.prog 77 (plainElem Tryz.prog 3) B n D ∧ ∀ s : ReceiptD, s.Ok → Maps.has D (rkey s) = (f s).isSome ∧ D.atKey (rkey s) (.lit (.int .i64 0)) = .lit (.int .i64 (((f s).getD 0 : Nat) : Int))
set_option maxRecDepth 100000 in
theorem MapAtR.made (w : World) : MapAtR (w.alloc (.map #[] 0)) w.heap.size 0 (fun _ => none) :=
 ⟨.map [], World.ownsMap_made _ _ _ _, fun s _ => ⟨rfl, rfl⟩⟩
set_option maxRecDepth 100000 in
theorem MapAtR.lt {w : World} {B n : Nat} {f : ReceiptD → Option Nat} (h : MapAtR w B n f) : B < w.heap.size := by obtain ⟨D, h, _⟩ := h; exact h.lt
set_option maxRecDepth 100000 in
theorem MapAtR.ext {w w' : World} {B n : Nat} {f : ReceiptD → Option Nat} (h : MapAtR w B n f) (he : Ext w w') : MapAtR w' B n f := by
 obtain ⟨D, h, k⟩ := h
 exact ⟨D, ownsMap_ext h he, k⟩
set_option maxRecDepth 100000 in
theorem MapAtR.mono {w : World} {B n m : Nat} {f : ReceiptD → Option Nat} (h : MapAtR w B n f) (hm : n ≤ m) : MapAtR w B m f := by
 obtain ⟨D, h, k⟩ := h
 exact ⟨D, h.mono hm, k⟩
set_option maxRecDepth 100000 in
theorem MapAtR.look1 {w : World} {B n : Nat} {f : ReceiptD → Option Nat} (h : MapAtR w B n f) (s : ReceiptD) (hs : s.Ok) : (Instr.lookup 192 (.map (some B)) (.agg #[.string s.reader, .string s.topic, .int .i64 s.index]) false).run Tryz.prog w = .ok (.int .i64 (((f s).getD 0 : Nat) : Int)) w := by
 obtain ⟨D, h, k⟩ := h
 obtain ⟨c, hrun, hc, _⟩ := h.lookup_int recKeyed Tryz.underlying192 Tryz.underlying3 (mapZero w) (rkey_of s hs)
 have h2 := (k s hs).2
 rw [hc] at h2
 simp only [DataW.lit.injEq, Lit.int.injEq, true_and] at h2
 unfold rval at hrun
 rw [hrun, h2]
def rput (f : ReceiptD → Option Nat) (s : ReceiptD) (m : Nat) : ReceiptD → Option Nat := fun t => if t.eqb s then some m else f t
set_option maxRecDepth 100000 in
theorem MapAtR.put {w' : World} {B n m : Nat} {f : ReceiptD → Option Nat} {s : ReceiptD} (hs : s.Ok) {D : DataW Unit} (hD : ∀ s : ReceiptD, s.Ok → Maps.has D (rkey s) = (f s).isSome ∧ D.atKey (rkey s) (.lit (.int .i64 0)) = .lit (.int .i64 (((f s).getD 0 : Nat) : Int)))
 (hm : IsMap D) (h' : w'.ownsMap Tryz.prog 77 (plainElem Tryz.prog 3) B (n + 1) (D.put (rkey s) (.lit (.int .i64 (m : Int))))) : MapAtR w' B (n + 1) (rput f s m) := by
 refine ⟨_, h', fun t ht => ?_⟩
 unfold rput
 cases e : t.eqb s
 · have hne : rkey t ≠ rkey s := fun h => by rw [rkey_inj ht hs h, ReceiptD.eqb_self] at e; cases e
   simp only [Bool.false_eq_true, if_false]
   rw [has_put_other hne, atKey_put_other hne]
   exact hD t ht
 · obtain rfl := (ReceiptD.eqb_iff t s).1 e
   simp only [if_true, Option.isSome_some, Option.getD_some]
   exact ⟨has_put_same hm (rkey_lit t hs) _, atKey_put_same hm (rkey_lit t hs) _ _⟩
end Go.Proofs.YtlgdghpnfclgpaaGreat

/-
  MapStr; MapRec; LogOks; DiskOks; ReopenP: No condition.
-/
import Derived.Test.YtgeengkdgdjcjaaGreatHashTop
import Derived.Maps.OwnSet
import Derived.Test.YtgeengkdgdjcjaaGreatLeaf
import Derived.Test.YtgeengkdgdjcjaaGreatHeadOps
import Derived.DeepKeys4
import Derived.Test.YtgeengkdgdjcjaaGreatBroker1
import Derived.Test.YtgeengkdgdjcjaaGreatBunch
import Derived.Test.YtgeengkdgdjcjaaGreatHeadRead
import Derived.Test.YtgeengkdgdjcjaaGreatReopen1
import Derived.Test.YtgeengkdgdjcjaaGreatReadRec
namespace Go.Proofs.YtgeengkdgdjcjaaGreat
set_option linter.unusedSimpArgs false
open Go.RowKit Go.WideMaps Go.Maps
set_option linter.unusedVariables false
theorem mapKeyed : Keyed Tryz.prog 9 := string_keyed Tryz.underlying9
theorem mapZero (w : World) : (zeroValue 3).run Tryz.prog w = .ok (.int .i64 0) w := by kernel_rfl
def skey (s : ByteArray) : Lit := .string s.data.toList
theorem skey_inj {s t : ByteArray} (h : skey s = skey t) : s = t := by
 simp only [skey, Lit.string.injEq] at h
 exact ByteArray.ext (Array.toList_inj.1 h)
def MapAt (w : World) (B n : Nat) (f : ByteArray → Option Nat) : Prop :=
 ∃ D : DataW Unit, w.ownsMap Tryz.prog 9 (plainElem Tryz.prog 3) B n D ∧ ∀ s, Maps.has D (skey s) = (f s).isSome ∧ D.atKey (skey s) (.lit (.int .i64 0)) = .lit (.int .i64 (((f s).getD 0 : Nat) : Int))
theorem MapAt.made (w : World) : MapAt (w.alloc (.map #[] 0)) w.heap.size 0 (fun _ => none) :=
 ⟨.map [], World.ownsMap_made _ _ _ _, fun s => ⟨rfl, rfl⟩⟩
theorem MapAt.lt {w : World} {B n : Nat} {f : ByteArray → Option Nat} (h : MapAt w B n f) : B < w.heap.size := by obtain ⟨D, h, _⟩ := h; exact h.lt
theorem ownsMap_ext {H : Type} {P : Program} {k : TypeId} {R : Value → Option (DataW H × List MemPlace)} {w w' : World} {B n : Nat} {D : DataW H} (h : w.ownsMap P k R B n D) (he : Ext w w') : w'.ownsMap P k R B n D := by
 have hlt := h.lt
 obtain ⟨es, clock, hb, r⟩ := h
 exact ⟨es, clock, (he.block B hlt).trans hb, r⟩
theorem MapAt.ext {w w' : World} {B n : Nat} {f : ByteArray → Option Nat} (h : MapAt w B n f) (he : Ext w w') : MapAt w' B n f := by
 obtain ⟨D, h, k⟩ := h
 exact ⟨D, ownsMap_ext h he, k⟩
theorem MapAt.mono {w : World} {B n m : Nat} {f : ByteArray → Option Nat} (h : MapAt w B n f) (hm : n ≤ m) : MapAt w B m f := by
 obtain ⟨D, h, k⟩ := h
 exact ⟨D, h.mono hm, k⟩
theorem MapAt.look {w : World} {B n : Nat} {f : ByteArray → Option Nat} (h : MapAt w B n f) (s : ByteArray) (hs : s.size ≤ maxLen) : (Instr.lookup 159 (.map (some B)) (.string s) true).run Tryz.prog w = .ok (.tuple #[.int .i64 (((f s).getD 0 : Nat) : Int), .bool (f s).isSome]) w := by
 obtain ⟨D, h, k⟩ := h
 obtain ⟨v, ps, hrun, hv⟩ := h.look_ok mapKeyed Tryz.underlying159 (mapZero w) (plainElem_int Tryz.underlying3 (by decide)) (keyOf_string_mk Tryz.underlying9 hs)
 obtain ⟨c, rfl, hc, _⟩ := plainElem_int_inv Tryz.underlying3 hv
 have h2 := (k s).2
 have h1 := (k s).1
 simp only [Prod.mk.injEq] at hc
 rw [show (Lit.string s.data.toList) = skey s from rfl] at hc hrun
 rw [hc.1] at h2
 simp only [DataW.lit.injEq, Lit.int.injEq, true_and] at h2
 rw [hrun, h1, h2]
theorem MapAt.look1 {w : World} {B n : Nat} {f : ByteArray → Option Nat} (h : MapAt w B n f) (s : ByteArray) (hs : s.size ≤ maxLen) : (Instr.lookup 159 (.map (some B)) (.string s) false).run Tryz.prog w = .ok (.int .i64 (((f s).getD 0 : Nat) : Int)) w := by
 obtain ⟨D, h, k⟩ := h
 obtain ⟨c, hrun, hc, _⟩ := h.lookup_int mapKeyed Tryz.underlying159 Tryz.underlying3 (mapZero w) (keyOf_string_mk Tryz.underlying9 hs)
 have h2 := (k s).2
 rw [show (Lit.string s.data.toList) = skey s from rfl] at hc
 rw [hc] at h2
 simp only [DataW.lit.injEq, Lit.int.injEq, true_and] at h2
 rw [hrun, h2]
def fput (f : ByteArray → Option Nat) (s : ByteArray) (m : Nat) : ByteArray → Option Nat := fun t => if t = s then some m else f t
theorem MapAt.put {w' : World} {B n m : Nat} {f : ByteArray → Option Nat} {s : ByteArray} {D : DataW Unit} (hD : ∀ s, Maps.has D (skey s) = (f s).isSome ∧ D.atKey (skey s) (.lit (.int .i64 0)) = .lit (.int .i64 (((f s).getD 0 : Nat) : Int)))
 (hm : IsMap D) (h' : w'.ownsMap Tryz.prog 9 (plainElem Tryz.prog 3) B (n + 1) (D.put (skey s) (.lit (.int .i64 (m : Int))))) : MapAt w' B (n + 1) (fput f s m) := by
 refine ⟨_, h', fun t => ?_⟩
 unfold fput
 by_cases e : t = s
 · subst e
   simp only [if_true, Option.isSome_some, Option.getD_some]
   exact ⟨has_put_same hm (show WideAt.IsKeyLit (.string _) from trivial) _, atKey_put_same hm (show WideAt.IsKeyLit (.string _) from trivial) _ _⟩
 · have hne : skey t ≠ skey s := fun h => e (skey_inj h)
   rw [if_neg e, has_put_other hne, atKey_put_other hne]
   exact hD t
theorem wpList_store_at (w : World) {ops : Array Oper} {rest : List Oper} {o : Oper} {a : Act} {Q : Exit → Act → World → Prop} (hg : o.guard = none) (m x v : Operand) (hop : o.op = Op.mapUpdate 159 m x v) (B n q : Nat) (s : ByteArray) (f : ByteArray → Option Nat)
 (hm : a.eval m = .map (some B)) (hown : MapAt w B n f) (hn : n < maxLen) (hx : a.eval x = .string s) (hv : a.eval v = .int .i64 (q : Int)) (hs : s.size ≤ maxLen) (hq : q ≤ 1099511627776)
 (hK : ∀ w', MapAt w' B (n + 1) (fput f s q) → w.grownBy w' (some B) → wpList Tryz.prog ops Q rest (a.put o.dst undef) w') : wpList Tryz.prog ops Q (o :: rest) a w := by
 obtain ⟨D, h, k⟩ := hown
 have wf : (Lit.int .i64 (q : Int)).wf = true := WalkArith.wf_i64 (by omega)
 exact wpList_mapUpdate_own w hg m x v 159 hop 9 3 mapKeyed Tryz.underlying159 _ B n D hm h hn _ _ _ hx hv (keyOf_string_mk Tryz.underlying9 hs) _ [] (plainElem_int Tryz.underlying3 wf) (fun w' h1 h2 => hK w' (MapAt.put k h.isMap h1) h2)
theorem Blk.grown {w w' : World} {g : Nat} {t : TypeId} {cs : Array Value} {row : Option Nat} (h : Blk w g t cs) (hg : w.grownBy w' row) (hne : some g ≠ row) : Blk w' g t cs := (hg.block g h.lt hne).trans h
theorem Ext.mapGrown {W w w' : World} {B : Nat} (he : Ext W w) (hg : w.grownBy w' (some B)) (hB : W.heap.size ≤ B) : Ext W w' := Below.grown he hg he.size (fun k hk => by cases hk; exact hB)
set_option maxRecDepth 100000
theorem recKeyed : Keyed Tryz.prog 58 := Keyed.of_law (deep_law_laid (by kernel_rfl) (m := 2) (by omega) (of_decide_eq_true (by kernel_rfl)) (by kernel_rfl) (by rw [Tryz.underlying58]))
def rval (d : ReceiptD) : Value := .agg #[.string d.reader, .string d.topic, .int .i64 d.index]
theorem rval_inj {a b : ReceiptD} (h : rval a = rval b) : a = b := by
 obtain ⟨a1, a2, a3⟩ := a
 obtain ⟨b1, b2, b3⟩ := b
 simpa [rval] using h
theorem rec_key (d : ReceiptD) (hd : d.Ok) : ∃ l, keyOf Tryz.prog 58 (rval d) = some l := by
 obtain ⟨h1, h2, h3⟩ := hd
 obtain ⟨m, hm⟩ : ∃ m, Tryz.prog.types.size = m + 1 := ⟨_, rfl⟩
 have k1 : Tryz.prog.keyType 58 = true := by kernel_rfl
 have k2 : Tryz.prog.cellsOf 58 = 3 := by kernel_rfl
 have k3 : Tryz.prog.cellsOf 3 = 1 := by kernel_rfl
 have k4 : Tryz.prog.cellsOf 9 = 1 := by kernel_rfl
 have k5 : (rval d).formed Tryz.prog 58 = true := by simp [rval, Value.formed, Tryz.underlying58, k2]
 unfold keyOf
 rw [Tryz.underlying58]
 simp only [k1, k5, Bool.and_self, if_true, hm]
 simp [Program.keyLits, Tryz.underlying58, Tryz.underlying3, Tryz.underlying9, k2, k3, k4, rval, Value.cells, h1, h2, h3]
noncomputable def rkey (d : ReceiptD) : Lit := (keyOf Tryz.prog 58 (rval d)).getD (.bool false)
theorem rkey_of (d : ReceiptD) (hd : d.Ok) : keyOf Tryz.prog 58 (rval d) = some (rkey d) := by
 obtain ⟨l, h⟩ := rec_key d hd
 rw [rkey, h]; rfl
theorem rkey_lit (d : ReceiptD) (hd : d.Ok) : WideAt.IsKeyLit (rkey d) := recKeyed.key (rkey_of d hd)
theorem rkey_inj {a b : ReceiptD} (ha : a.Ok) (hb : b.Ok) (h : rkey a = rkey b) : a = b :=
 rval_inj (recKeyed.inj (rkey_of a ha) (by rw [h]; exact rkey_of b hb))
def MapAtR (w : World) (B n : Nat) (f : ReceiptD → Option Nat) : Prop :=
 ∃ D : DataW Unit, w.ownsMap Tryz.prog 58 (plainElem Tryz.prog 3) B n D ∧ ∀ s : ReceiptD, s.Ok → Maps.has D (rkey s) = (f s).isSome ∧ D.atKey (rkey s) (.lit (.int .i64 0)) = .lit (.int .i64 (((f s).getD 0 : Nat) : Int))
theorem MapAtR.made (w : World) : MapAtR (w.alloc (.map #[] 0)) w.heap.size 0 (fun _ => none) :=
 ⟨.map [], World.ownsMap_made _ _ _ _, fun s _ => ⟨rfl, rfl⟩⟩
theorem MapAtR.lt {w : World} {B n : Nat} {f : ReceiptD → Option Nat} (h : MapAtR w B n f) : B < w.heap.size := by obtain ⟨D, h, _⟩ := h; exact h.lt
theorem MapAtR.ext {w w' : World} {B n : Nat} {f : ReceiptD → Option Nat} (h : MapAtR w B n f) (he : Ext w w') : MapAtR w' B n f := by
 obtain ⟨D, h, k⟩ := h
 exact ⟨D, ownsMap_ext h he, k⟩
theorem MapAtR.mono {w : World} {B n m : Nat} {f : ReceiptD → Option Nat} (h : MapAtR w B n f) (hm : n ≤ m) : MapAtR w B m f := by
 obtain ⟨D, h, k⟩ := h
 exact ⟨D, h.mono hm, k⟩
theorem MapAtR.look1 {w : World} {B n : Nat} {f : ReceiptD → Option Nat} (h : MapAtR w B n f) (s : ReceiptD) (hs : s.Ok) : (Instr.lookup 178 (.map (some B)) (.agg #[.string s.reader, .string s.topic, .int .i64 s.index]) false).run Tryz.prog w = .ok (.int .i64 (((f s).getD 0 : Nat) : Int)) w := by
 obtain ⟨D, h, k⟩ := h
 obtain ⟨c, hrun, hc, _⟩ := h.lookup_int recKeyed Tryz.underlying178 Tryz.underlying3 (mapZero w) (rkey_of s hs)
 have h2 := (k s hs).2
 rw [hc] at h2
 simp only [DataW.lit.injEq, Lit.int.injEq, true_and] at h2
 unfold rval at hrun
 rw [hrun, h2]
def rput (f : ReceiptD → Option Nat) (s : ReceiptD) (m : Nat) : ReceiptD → Option Nat := fun t => if t.eqb s then some m else f t
theorem MapAtR.put {w' : World} {B n m : Nat} {f : ReceiptD → Option Nat} {s : ReceiptD} (hs : s.Ok) {D : DataW Unit} (hD : ∀ s : ReceiptD, s.Ok → Maps.has D (rkey s) = (f s).isSome ∧ D.atKey (rkey s) (.lit (.int .i64 0)) = .lit (.int .i64 (((f s).getD 0 : Nat) : Int)))
 (hm : IsMap D) (h' : w'.ownsMap Tryz.prog 58 (plainElem Tryz.prog 3) B (n + 1) (D.put (rkey s) (.lit (.int .i64 (m : Int))))) : MapAtR w' B (n + 1) (rput f s m) := by
 refine ⟨_, h', fun t ht => ?_⟩
 unfold rput
 cases e : t.eqb s
 · have hne : rkey t ≠ rkey s := fun h => by rw [rkey_inj ht hs h, ReceiptD.eqb_self] at e; cases e
   simp only [Bool.false_eq_true, if_false]
   rw [has_put_other hne, atKey_put_other hne]
   exact hD t ht
 · obtain rfl := (ReceiptD.eqb_iff t s).1 e
   simp only [if_true, Option.isSome_some, Option.getD_some]
   exact ⟨has_put_same hm (rkey_lit t hs) _, atKey_put_same hm (rkey_lit t hs) _ _⟩
end Go.Proofs.YtgeengkdgdjcjaaGreat
namespace Go.Proofs.YtgeengkdgdjcjaaGreat
set_option maxHeartbeats 2000000
set_option maxRecDepth 100000
set_option linter.unusedSimpArgs false
open Go.RowKit
set_option linter.unusedVariables false
def cntF (l : List EntryD) (t : ByteArray) : Option Nat := if cntT l t = 0 then none else some (cntT l t)
theorem cntF_nil : cntF [] = fun _ => none := rfl
theorem cntF_get (l : List EntryD) (t : ByteArray) : (cntF l t).getD 0 = cntT l t := by
 unfold cntF
 split
 · simp; omega
 · rfl
theorem cntF_next {l : List EntryD} {k : Nat} {d : EntryD} (hd : l[k]? = some d) : fput (cntF (l.take k)) d.topic (cntT (l.take k) d.topic + 1) = cntF (l.take (k + 1)) := by
 funext t
 unfold fput cntF
 rw [cntT_next hd]
 by_cases e : t = d.topic
 · subst e
   rw [if_pos rfl, if_pos (show ofTopic d.topic d = true by simp [ofTopic]), if_neg (by omega)]
 · have : ofTopic t d = false := by
    simp only [ofTopic, beq_eq_false_iff_ne, ne_eq]
    intro h
    exact e (bytes_toList.1 h).symm
   simp [e, this]
theorem logAt_eq {l : List EntryD} {k : Nat} {d : EntryD} (hd : l[k]? = some d) : logAt l k = (entryOk d && ((cntT (l.take k) d.topic : Int) == d.index)) := by rw [logAt, hd]
theorem reads_take {α : Type} {f : α → List Value} {size : Nat} {w : World} {B : Nat} {A : Option Addr} {l : List α} (hf : ∀ a, (f a).length = size) (h : ReadsL w B f size A l) (k : Nat) (hk : k ≤ l.length) : ReadsL w B f size A (l.take k) := by
 refine ⟨flat_len f size hf _, fun hn => ?_⟩
 obtain ⟨b, off, e, hb, hc⟩ := h.2 (by rw [List.length_take] at hn; omega)
 refine ⟨b, off, e, hb, fun j u hu => hc j u ?_⟩
 conv => lhs; rw [← List.take_append_drop k l, List.flatMap_append]
 rw [List.getElem?_append_left (List.getElem?_eq_some_iff.1 hu).1]
 exact hu
theorem implLogOk_any (A : Option Addr) (c : Nat) (l : List EntryD) (w : World) (hr : SlF AnyB EntryD.cells 5 w A l c) (hok : ∀ d ∈ l, d.Ok) :
 Calls Tryz.prog 57 #[.agg #[.slice A l.length c]] w fun e w' => e = .returned (.bool (logOk l)) ∧ Ext w w' := by
 have K0 := hU ((Blk.new w 26 #[.slice A l.length c]))
 have He := hU (Ext.new (Below.refl w.heap.size w) (.cells #[.slice A l.length c] 26))
 have HR := hU hr
 have Hok := hU hok
 have hlm := hr.len
 unfold maxLen at hlm
 obtain ⟨fin, hfin⟩ : ∃ fin, fin = logOk l := ⟨_, rfl⟩
 rw [← hfin]
 by_cases h5 : l.length ≤ 512
 case neg =>
  have E := hU (show fin = false by rw [hfin, logOk, decide_eq_false h5]; rfl)
  have h6 : (512 : Int) < (l.length : Int) := by omega
  clear hfin
  go_enter Tryz.func57, Tryz.ntmps57
  go_wp2_with fail
  go_ret
  exact ⟨ret_bool E.out.symm, He.out⟩
 have F := hU (show fin = allTo (logAt l) l.length by rw [hfin, logOk, decide_eq_true h5]; rfl)
 clear hfin hok hr
 have hmm := @run_makeMap Tryz.prog
 have M0 := hU (MapAt.made (w.alloc (.cells #[.slice A l.length c] 26)))
 go_enter Tryz.func57, Tryz.ntmps57
 go_wp2_with fail
 obtain ⟨g, hg⟩ : ∃ g, g = w.heap.size := ⟨_, rfl⟩
 have M1 := M0.out
 rw [World.size_alloc, ← hg] at M1
 have E1 := Ext.new He.out (.map #[] 0)
 have hg1 : w.heap.size ≤ g + 1 := by omega
 rw [← hg]
 clear hg K0 M0 He hmm
 have M1 := hU M1; have E1 := hU E1
 go_loopw [14] (fun i wr => ∃ k : Nat, k ≤ l.length ∧ i = .int .i64 k ∧ allTo (logAt l) k = true ∧ MapAt wr (g + 1) k (cntF (l.take k)) ∧ Ext w wr) (fun i _ => l.length - (intOf i).toNat)
 case atStart => exact ⟨0, Nat.zero_le _, rfl, rfl, by rw [List.take_zero, cntF_nil]; exact M1.out, E1.out⟩
 case round =>
  clear M1 E1
  obtain ⟨k, hk, rfl, hi, hM, he⟩ := hrel
  have Hi := hU hi; have KM := hU hM
  clear hi hM
  by_cases hlt : k < l.length
  case neg =>
   have E := hU (show fin = true by rw [F.out, show l.length = k by omega]; exact Hi.out)
   go_wp2_with fail
   go_ret
   exact ⟨ret_bool E.out.symm, he⟩
  obtain ⟨b, off, rfl, hb, hc⟩ := Reads.at_ (HR.out.ext he).reads (k := k) hlt
  obtain ⟨d, hd⟩ : ∃ d, d = l[k] := ⟨_, rfl⟩
  have hdl : l[k]? = some d := by rw [hd]; exact List.getElem?_eq_getElem hlt
  have hdo := Hok.out d (List.mem_of_getElem? hdl)
  obtain ⟨c0, c1, c2, c3, c4⟩ := entry_at hc hdl
  have Hdl := hU hdl
  have LA := hU (logAt_eq hdl)
  have NX := hU (cntF_next hdl)
  have hcl := cntT_le (l.take k) d.topic
  rw [List.length_take] at hcl
  have hc5 : cntT (l.take k) d.topic ≤ 512 := by omega
  have HDO := hU hdo
  have hts : d.topic.size ≤ maxLen := hdo.1
  have HT := hU hts
  clear hc hd hdl hcl hdo hts
  cases p1 : entryOk d
  · have E := hU (show fin = false by rw [F.out]; exact allTo_bad (k := k) (by rw [LA.out, p1]; rfl) _ hlt)
    go_wp2_with fail
    refine (EntryOk_any d _ HDO.out).mono ?_
    rintro e w1 ⟨rfl, h1⟩
    rw [p1]
    replace he := (he.new _).next h1
    go_wp2_with fail
    go_ret
    exact ⟨ret_bool E.out.symm, he⟩
  go_wp2_with fail
  refine (EntryOk_any d _ HDO.out).mono ?_
  rintro e w1 ⟨rfl, h1⟩
  rw [p1]
  have KE := (Blk.new wr 56 #[.string d.topic, .int .i64 d.index, .int .i64 d.time, .string d.key, .string d.body]).ext h1
  have hgw := KM.out.lt
  have h2 := Ext.next (Ext.new (Below.refl wr.heap.size wr) _) h1
  replace he := he.next h2; replace KM := hU (KM.out.ext h2)
  clear h1 h2 c0 c1 c2 c3 c4
  obtain ⟨q, hq⟩ : ∃ q, q = wr.heap.size := ⟨_, rfl⟩
  rw [← hq] at KE hgw
  rw [← hq]
  clear hq
  obtain ⟨r0, f0⟩ := KE.rules
  have LK := KM.out.look1 d.topic HT.out
  rw [cntF_get] at LK
  obtain ⟨m, hm⟩ : ∃ m, m = cntT (l.take k) d.topic := ⟨_, rfl⟩
  rw [← hm] at LK hc5
  have HMm := hU hm
  rw [← hm] at LA NX
  clear hm
  cases p2 : ((m : Int) == d.index)
  · have E := hU (show fin = false by rw [F.out]; exact allTo_bad (k := k) (by rw [LA.out, p1, p2]; rfl) _ hlt)
    have n2 : (d.index != (m : Int)) = true := by
     have : ¬ ((m : Int) = d.index) := by simpa using p2
     simp; omega
    clear p2
    go_wp2_with fail
    go_ret
    exact ⟨ret_bool E.out.symm, he⟩
  · have E := hU (show allTo (logAt l) (k + 1) = true from allTo_good Hi.out (by rw [LA.out, p1, p2]; rfl))
    have n2 : (d.index != (m : Int)) = false := by
     have : (m : Int) = d.index := by simpa using p2
     simp; omega
    clear p2
    go_wp2_with (at_mapUpdate; refine wpList_store_at _ rfl _ _ _ rfl (g + 1) k (m + 1) d.topic (cntF (l.take k)) rfl KM.out (by unfold maxLen; omega) rfl (by rfl) HT.out (by omega) ?_)
    intro w2 hM2 hgr
    have he2 := Ext.mapGrown he hgr hg1
    rw [NX.out] at hM2
    have KM2 := hU hM2
    clear hM2 hgr KM he KE r0 f0 LK
    go_wp2_with fail
    go_roundw
    case rel => exact ⟨k + 1, by omega, by go_num, E.out, KM2.out, he2⟩
    case measure => simp [intOf]; omega
def fileOk (x : ByteArray) : Bool := decide (x.size ≤ 300000)
def diskOk (l : List ByteArray) : Bool := l.length == 3 && l.all fileOk
theorem implDiskOk_any (A : Option Addr) (c : Nat) (l : List ByteArray) (w : World) (hr : ReadsL w w.heap.size sone 1 A l) (hl : l.length ≤ 1048576) :
 Calls Tryz.prog 54 #[.agg #[.slice A l.length c]] w fun e w' => e = .returned (.bool (diskOk l)) ∧ Ext w w' := by
 have K0 := hU (Blk.new w 40 #[.slice A l.length c])
 have He := hU (Ext.new (Below.refl w.heap.size w) (.cells #[.slice A l.length c] 40))
 have HR := hU hr
 clear hr
 obtain ⟨fin, hfin⟩ : ∃ fin, fin = diskOk l := ⟨_, rfl⟩
 rw [← hfin]
 have F := hU hfin
 clear hfin
 obtain ⟨kc, kf⟩ := K0.out.rules
 go_enter Tryz.func54, Tryz.ntmps54
 go_wp2_with fail
 obtain ⟨g, hg⟩ : ∃ g, g = w.heap.size := ⟨_, rfl⟩
 have K1 := hU (show Blk _ g _ _ by rw [hg]; exact K0.out)
 rw [← hg]
 clear hg K0 kc kf
 go_loopw [8] (fun i wr => ∃ k : Nat, k ≤ l.length ∧ i = .int .i64 k ∧ (∀ x ∈ l.take k, fileOk x = true) ∧ Ext w wr ∧ Blk wr g 40 #[.slice A l.length c]) (fun i _ => l.length - (intOf i).toNat)
 case atStart => exact ⟨0, Nat.zero_le _, rfl, by simp, He.out, K1.out⟩
 case round =>
  clear K1 He
  obtain ⟨k, hk, rfl, hall, he, hB⟩ := hrel
  have HA := hU hall; have KB := hU hB
  obtain ⟨kc, kf⟩ := hB.rules
  clear hall hB
  by_cases hlt : k < l.length
  case neg =>
   obtain rfl : k = l.length := by omega
   have E := hU (show fin = (l.length == 3) by
    have h := HA.out
    rw [List.take_length] at h
    rw [F.out, diskOk, List.all_eq_true.2 h, Bool.and_true])
   cases q3 : (l.length == 3)
   · have q4 : ¬ (l.length : Int) = 3 := by simp at q3; omega
     go_wp2_with fail
     go_ret
     exact ⟨ret_bool (by rw [E.out, q3]; simpa using q4), he⟩
   · have q4 : (l.length : Int) = 3 := by simp at q3; omega
     go_wp2_with fail
     go_ret
     exact ⟨ret_bool (by rw [E.out, q3]), he⟩
  obtain ⟨x, hx⟩ : ∃ x, l[k]? = some x := ⟨l[k], List.getElem?_eq_getElem hlt⟩
  obtain ⟨b, off, rfl, hb, c0⟩ := texts_cell (HR.out.ext he) hx
  have X := hU hx
  clear hx
  by_cases hz : x.size ≤ 300000
  case neg =>
   have E := hU (show fin = false by
    rw [F.out, diskOk, show l.all fileOk = false by rw [List.all_eq_false]; exact ⟨x, List.mem_of_getElem? X.out, by simp [fileOk]; omega⟩, Bool.and_false])
   have hz2 : (300000 : Int) < (x.size : Int) := by omega
   go_wp2_with fail
   go_ret
   exact ⟨ret_bool E.out.symm, he⟩
  have hz2 : ¬ (300000 : Int) < (x.size : Int) := by omega
  have HA2 := hU (show ∀ y ∈ l.take (k + 1), fileOk y = true from fun y hy => by
   obtain ⟨hkl, hkd⟩ := List.getElem?_eq_some_iff.1 X.out
   rw [List.take_succ_eq_append_getElem hkl, List.mem_append] at hy
   rcases hy with hy | hy
   · exact HA.out y hy
   · obtain rfl := List.mem_singleton.1 hy
     rw [hkd]; simp [fileOk]; omega)
  go_wp2_with fail
  go_roundw
  case rel => exact ⟨k + 1, by omega, by go_num, HA2.out, he, KB.out⟩
  case measure => simp [intOf]; omega
def filesOf (l : List ByteArray) (i : Nat) : List ByteArray := (unf (l.getD i ⟨#[]⟩)).1
def dmg1 (i : Nat) (x : ByteArray) : List (Nat × Nat) := if (unf x).2 < x.size then [(i, (unf x).2)] else []
def dmgs : Nat → List ByteArray → List (Nat × Nat)
 | _, [] => []
 | i, x :: t => dmg1 i x ++ dmgs (i + 1) t
theorem dmgs_append (l : List ByteArray) (x : ByteArray) : ∀ i, dmgs i (l ++ [x]) = dmgs i l ++ dmg1 (i + l.length) x := by
 induction l with
 | nil => intro i; simp [dmgs]
 | cons a t ih => intro i; simp only [List.cons_append, dmgs, ih, List.append_assoc, List.length_cons]; rw [show i + 1 + t.length = i + (t.length + 1) by omega]
def reB0 (n : Int) (l : List ByteArray) : BrokerD := ⟨n, ⟨(filesOf l 0).map rlD⟩, (filesOf l 2).map rrD, newH true n :: (filesOf l 1).map (hrD n), ⟨⟨0, []⟩, ⟨0, []⟩, hz⟩⟩
def reB (n : Int) (l : List ByteArray) : BrokerD := { reB0 n l with sealed := sealOfH n (leavesH n (reB0 n l).log.entries) (takenH n (reB0 n l).receipts) (lastH (reB0 n l).heads) }
def reCode (n : Int) (l : List ByteArray) : Nat :=
 if !(inR n 1 32 && diskOk l) then 1
 else if !((filesOf l 0).all rlImpl && logOk (reB0 n l).log.entries) then 2
 else if !((filesOf l 2).all rrImpl && recsOk (reB0 n l).receipts) then 3
 else if !((filesOf l 1).all (hrImpl n) && brkParts (reB0 n l)) then 4
 else 0
end Go.Proofs.YtgeengkdgdjcjaaGreat

/-
  Frame, frameAt: walks. No condition.
  Unframe: walks. No condition.
  Meet: walks. No condition.
  A map of the call's own, from texts to numbers: what it holds, as a plain function. No condition.
-/
import Derived.Test.YtichegndafnjeaaGreatReread
import Derived.Test.YtichegndafnjeaaGreatHashTop
import Derived.Test.YtichegndafnjeaaGreatEqs
import Derived.Test.YtichegndafnjeaaGreatSpecPad
import Derived.Test.YtichegndafnjeaaGreatMeetEnd
import Derived.Test.YtichegndafnjeaaGreatOwn
import Derived.Maps.OwnSet
namespace Go.Proofs.YtichegndafnjeaaGreat
open Go.RowKit
set_option linter.unusedVariables false

theorem dig4 {T : ByteArray} (h : inR T.size 1 1000 = true) : digestOk 4 4 T = true := by
  obtain ⟨h0, h1⟩ := inR_true h
  simp only [digestOk, Bool.and_eq_true, decide_eq_true_eq]
  exact ⟨⟨by decide, by decide⟩, by omega⟩
theorem dig4_size {T : ByteArray} (h : inR T.size 1 1000 = true) : (digest 4 4 T).size = 4 := digest_size (dig4 h)
def frameB (T : ByteArray) : ByteArray := lowB T.size 2 ++ digest 4 4 T ++ T
def frameOut (T : ByteArray) : ByteArray := if inR T.size 1 1000 then frameB T else ⟨#[]⟩
set_option maxHeartbeats 1000000 in
theorem specFrame_any (T : ByteArray) (w : World) (hT : T.size ≤ maxLen) : Calls Tryz.prog 196 #[.string T] w fun e w' => e = .returned (.tuple #[.string (frameOut T), .bool (inR T.size 1 1000)]) ∧ Ext w w' := by
  have HT := Lib.hid hT
  unfold maxLen at hT
  cases b1 : inR T.size 1 1000
  · have E := Lib.hid (show frameOut T = ⟨#[]⟩ by simp [frameOut, b1])
    go_enter Tryz.func196, Tryz.ntmps196
    go_wp2_with (go_at_call 107; refine (l01In_any _ _ _ _).mono ?_; rintro e w' ⟨rfl, rfl⟩)
    go_ret2
    exact ⟨by rw [E.out]; rfl, Below.refl _ _⟩
  · have E := Lib.hid (show frameOut T = frameB T by simp [frameOut, b1])
    obtain ⟨h0, h1⟩ := inR_true b1
    have d4 := dig4_size b1
    have l2 := lowB_size T.size 2
    have n1 : ¬ 9223372036854775807 < (lowB T.size 2).size + (digest 4 4 T).size := by omega
    have n2 : ¬ 9223372036854775807 < (lowB T.size 2).size + (digest 4 4 T).size + T.size := by omega
    have he := Below.refl w.heap.size w
    go_enter Tryz.func196, Tryz.ntmps196
    go_wp2_with (go_at_call 107; refine (l01In_any _ _ _ _).mono ?_; rintro e w' ⟨rfl, rfl⟩)
    refine (specDigest_any 4 4 T _ HT.out).mono ?_
    rintro e w1 ⟨rfl, hx⟩
    replace he : Ext w w1 := Ext.next he hx
    go_wp2_with fail
    refine (l03Number_any T.size 2 _ (by omega) (by decide)).mono ?_
    rintro e w2 ⟨rfl, hx⟩
    replace he : Ext w w2 := he.next hx
    go_wp2_with fail
    go_ret2
    exact ⟨by rw [E.out]; rfl, he⟩
def fa0 (p : Nat) : Rd := ⟨p, false⟩
def faN (T : ByteArray) (p : Nat) : Nat := beNum (rdTake T (fa0 p) 2)
def fa1 (T : ByteArray) (p : Nat) : Rd := rdNext T (fa0 p) 2
def faSum (T : ByteArray) (p : Nat) : ByteArray := rdTake T (fa1 T p) 4
def fa2 (T : ByteArray) (p : Nat) : Rd := rdNext T (fa1 T p) 4
def faText (T : ByteArray) (p : Nat) : ByteArray := rdTake T (fa2 T p) (faN T p)
def fa3 (T : ByteArray) (p : Nat) : Rd := rdNext T (fa2 T p) (faN T p)
def faOk (T : ByteArray) (p : Nat) : Bool := !(fa3 T p).bad && inR (faN T p) 1 1000 && ((digest 4 4 (faText T p)).toList == (faSum T p).toList)
def faRes (T : ByteArray) (p : Nat) : Ending := .returned (.tuple #[.string (if faOk T p then faText T p else ⟨#[]⟩), .int .i64 (if faOk T p then ((fa3 T p).pos : Int) else 0), .bool (faOk T p)])
theorem faText_size (T : ByteArray) (p : Nat) : (faText T p).size ≤ T.size := by
  unfold faText rdTake
  split
  · exact Nat.zero_le _
  · rw [ByteArray.size_extract]; omega
end Go.Proofs.YtichegndafnjeaaGreat
namespace Go.Proofs.YtichegndafnjeaaGreat
open Go.RowKit
set_option linter.unusedVariables false

theorem info_str : (Tryz.prog.info? 9).map (fun i => (i.zero, i.size, i.bytes)) = some (some (.string ⟨#[]⟩), 1, 16) := by kernel_rfl
def svals (l : List ByteArray) : List Value := l.map .string
theorem svals_len (l : List ByteArray) : (svals l).length = l.length := by simp [svals]
theorem svals_snoc (l : List ByteArray) (x : ByteArray) : svals l ++ [.string x] = svals (l ++ [x]) := by simp [svals]
def unfGo (T : ByteArray) : Nat → Nat → List ByteArray × Nat
  | 0, p => ([], p)
  | f + 1, p => if faOk T p then (faText T p :: (unfGo T f (fa3 T p).pos).1, (unfGo T f (fa3 T p).pos).2) else ([], p)
def unf (T : ByteArray) : List ByteArray × Nat := if T.size ≤ 300000 then unfGo T 600 0 else ([], 0)
theorem faOk_pos {T : ByteArray} {p : Nat} (h : faOk T p = true) : (fa3 T p).pos = p + 6 + faN T p ∧ (fa3 T p).pos ≤ T.size ∧ 1 ≤ faN T p ∧ faN T p ≤ 1000 := by
  simp only [faOk, Bool.and_eq_true, Bool.not_eq_true'] at h
  obtain ⟨⟨h1, h2⟩, h3⟩ := h
  obtain ⟨h4, h5⟩ := inR_true h2
  obtain ⟨a1, a2, a3, _⟩ := rdNext_ok h1
  obtain ⟨b1, b2, b3, _⟩ := rdNext_ok a1
  obtain ⟨c1, c2, c3, _⟩ := rdNext_ok b1
  have e1 : (fa1 T p).pos = p + 2 := c2
  have e2 : (fa2 T p).pos = (fa1 T p).pos + 4 := b2
  have e3 : (fa3 T p).pos = (fa2 T p).pos + faN T p := a2
  omega
structure UInv (T : ByteArray) (fin : List ByteArray × Nat) (l : List ByteArray) (p : Nat) : Prop where
  len : l.length ≤ 600
  pos : p ≤ T.size
  texts : l ++ (unfGo T (600 - l.length) p).1 = fin.1
  at_ : (unfGo T (600 - l.length) p).2 = fin.2
theorem UInv.done {T : ByteArray} {fin : List ByteArray × Nat} {l : List ByteArray} {p : Nat} (h : UInv T fin l p) (hl : 600 ≤ l.length) : l = fin.1 ∧ p = fin.2 := by
  have h1 := h.texts; have h2 := h.at_
  rw [show 600 - l.length = 0 by omega] at h1 h2
  exact ⟨by simpa [unfGo] using h1, h2⟩
theorem UInv.stop {T : ByteArray} {fin : List ByteArray × Nat} {l : List ByteArray} {p : Nat} (h : UInv T fin l p) (hl : l.length < 600) (hk : faOk T p = false) : l = fin.1 ∧ p = fin.2 := by
  have h1 := h.texts; have h2 := h.at_
  rw [show 600 - l.length = (599 - l.length) + 1 by omega] at h1 h2
  simp only [unfGo, hk] at h1 h2
  exact ⟨by simpa using h1, h2⟩
theorem UInv.step {T : ByteArray} {fin : List ByteArray × Nat} {l : List ByteArray} {p : Nat} (h : UInv T fin l p) (hl : l.length < 600) (hk : faOk T p = true) : UInv T fin (l ++ [faText T p]) (fa3 T p).pos := by
  have h1 := h.texts; have h2 := h.at_
  rw [show 600 - l.length = (599 - l.length) + 1 by omega] at h1 h2
  simp only [unfGo, hk, if_true] at h1 h2
  have e : 600 - (l ++ [faText T p]).length = 599 - l.length := by rw [List.length_append, List.length_singleton]; omega
  refine ⟨by simp; omega, (faOk_pos hk).2.1, ?_, ?_⟩
  · rw [e, List.append_assoc]; exact h1
  · rw [e]; exact h2
theorem ownsRow_nil (w : World) (B e size : Nat) : w.ownsRow B e size (.slice none 0 0) 0 [] := ⟨by simp, .inl ⟨rfl, rfl⟩⟩
def OwnS (W w : World) (v : Value) (l : List ByteArray) : Prop := w.ownsRow W.heap.size 9 1 v l.length (svals l)
end Go.Proofs.YtichegndafnjeaaGreat
namespace Go.Proofs.YtichegndafnjeaaGreat
open Go.RowKit
set_option linter.unusedVariables false

/-- A return of two structs that lie in blocks that are known whole, and a value in a slot. -/
theorem ret_rows_tmp {P : Program} {fn : Func} {R : Ending → World → Prop} {a : Act} {w : World} {p q u : Tmp} {ty g g' t : Nat} {cs cs' : Array Value} {d : TypeDesc} (h : fn.results = #[.cell p ty, .cell q ty, .tmp u])
    (hp : a.tmps.getD p undef = .pointer (some ⟨g, 0, none⟩)) (hq : a.tmps.getD q undef = .pointer (some ⟨g', 0, none⟩)) (hB : Blk w g t cs) (hB' : Blk w g' t cs') (hu : P.underlying ty = some d) (hd : (match d with | .struct _ | .array _ _ => true | _ => false) = true) (hi : (P.info? ty).map (·.size) = some cs.size) (hi' : (P.info? ty).map (·.size) = some cs'.size)
    (hdef : a.defers = []) (hR : R (.returned (.tuple #[.agg cs, .agg cs', a.tmps.getD u undef])) w) : bodyPost P fn R .ret a w := by
  refine bodyPost_ret (v := .tuple #[.agg cs, .agg cs', a.tmps.getD u undef]) ?_ hdef hR
  have h1 := run_loadVar_row w g t ty cs (0, 0) d hB hu hd hi
  have h2 := run_loadVar_row w g' t ty cs' (0, 0) d hB' hu hd hi'
  simp only [results, h]
  rw [show (#[ResultVar.cell p ty, ResultVar.cell q ty, ResultVar.tmp u] : Array ResultVar) = #[.cell p ty, .cell q ty, .tmp u] from rfl]
  simp [Sem.run_bind, Result.andThen]
  have hp' : a.tmps[p]?.getD undef = .pointer (some ⟨g, 0, none⟩) := by rw [← hp]; simp
  have hq' : a.tmps[q]?.getD undef = .pointer (some ⟨g', 0, none⟩) := by rw [← hq]; simp
  rw [hp', hq']
  simp [asAddr, Sem.run_pure, Result.andThen, h1, h2]
end Go.Proofs.YtichegndafnjeaaGreat
namespace Go.Proofs.YtichegndafnjeaaGreat
open Go.RowKit Go.WideMaps Go.Maps
set_option linter.unusedVariables false

theorem mapKeyed : Keyed Tryz.prog 9 := string_keyed Tryz.underlying9
theorem mapZero (w : World) : (zeroValue 3).run Tryz.prog w = .ok (.int .i64 0) w := by kernel_rfl
def skey (s : ByteArray) : Lit := .string s.data.toList
theorem skey_inj {s t : ByteArray} (h : skey s = skey t) : s = t := by
  simp only [skey, Lit.string.injEq] at h
  exact ByteArray.ext (Array.toList_inj.1 h)
/-- Block B is a map of at most n entries that holds f. -/
def MapAt (w : World) (B n : Nat) (f : ByteArray → Option Nat) : Prop :=
  ∃ D : DataW Unit, w.ownsMap Tryz.prog 9 (plainElem Tryz.prog 3) B n D ∧ ∀ s, Maps.has D (skey s) = (f s).isSome ∧ D.atKey (skey s) (.lit (.int .i64 0)) = .lit (.int .i64 (((f s).getD 0 : Nat) : Int))
theorem MapAt.made (w : World) : MapAt (w.alloc (.map #[] 0)) w.heap.size 0 (fun _ => none) :=
  ⟨.map [], World.ownsMap_made _ _ _ _, fun s => ⟨rfl, rfl⟩⟩
theorem MapAt.lt {w : World} {B n : Nat} {f : ByteArray → Option Nat} (h : MapAt w B n f) : B < w.heap.size := by obtain ⟨D, h, _⟩ := h; exact h.lt
theorem ownsMap_ext {H : Type} {P : Program} {k : TypeId} {R : Value → Option (DataW H × List MemPlace)} {w w' : World} {B n : Nat} {D : DataW H} (h : w.ownsMap P k R B n D) (he : Ext w w') : w'.ownsMap P k R B n D := by
  have hlt := h.lt
  obtain ⟨es, clock, hb, r⟩ := h
  exact ⟨es, clock, (he.block B hlt).trans hb, r⟩
theorem MapAt.ext {w w' : World} {B n : Nat} {f : ByteArray → Option Nat} (h : MapAt w B n f) (he : Ext w w') : MapAt w' B n f := by
  obtain ⟨D, h, k⟩ := h
  exact ⟨D, ownsMap_ext h he, k⟩
theorem MapAt.mono {w : World} {B n m : Nat} {f : ByteArray → Option Nat} (h : MapAt w B n f) (hm : n ≤ m) : MapAt w B m f := by
  obtain ⟨D, h, k⟩ := h
  exact ⟨D, h.mono hm, k⟩
theorem MapAt.look {w : World} {B n : Nat} {f : ByteArray → Option Nat} (h : MapAt w B n f) (s : ByteArray) (hs : s.size ≤ maxLen) : (Instr.lookup 126 (.map (some B)) (.string s) true).run Tryz.prog w = .ok (.tuple #[.int .i64 (((f s).getD 0 : Nat) : Int), .bool (f s).isSome]) w := by
  obtain ⟨D, h, k⟩ := h
  obtain ⟨v, ps, hrun, hv⟩ := h.look_ok mapKeyed Tryz.underlying126 (mapZero w) (plainElem_int Tryz.underlying3 (by decide)) (keyOf_string_mk Tryz.underlying9 hs)
  obtain ⟨c, rfl, hc, _⟩ := plainElem_int_inv Tryz.underlying3 hv
  have h2 := (k s).2
  have h1 := (k s).1
  simp only [Prod.mk.injEq] at hc
  rw [show (Lit.string s.data.toList) = skey s from rfl] at hc hrun
  rw [hc.1] at h2
  simp only [DataW.lit.injEq, Lit.int.injEq, true_and] at h2
  rw [hrun, h1, h2]
theorem MapAt.look1 {w : World} {B n : Nat} {f : ByteArray → Option Nat} (h : MapAt w B n f) (s : ByteArray) (hs : s.size ≤ maxLen) : (Instr.lookup 126 (.map (some B)) (.string s) false).run Tryz.prog w = .ok (.int .i64 (((f s).getD 0 : Nat) : Int)) w := by
  obtain ⟨D, h, k⟩ := h
  obtain ⟨c, hrun, hc, _⟩ := h.lookup_int mapKeyed Tryz.underlying126 Tryz.underlying3 (mapZero w) (keyOf_string_mk Tryz.underlying9 hs)
  have h2 := (k s).2
  rw [show (Lit.string s.data.toList) = skey s from rfl] at hc
  rw [hc] at h2
  simp only [DataW.lit.injEq, Lit.int.injEq, true_and] at h2
  rw [hrun, h2]
def fput (f : ByteArray → Option Nat) (s : ByteArray) (m : Nat) : ByteArray → Option Nat := fun t => if t = s then some m else f t
theorem MapAt.put {w' : World} {B n m : Nat} {f : ByteArray → Option Nat} {s : ByteArray} {D : DataW Unit} (hD : ∀ s, Maps.has D (skey s) = (f s).isSome ∧ D.atKey (skey s) (.lit (.int .i64 0)) = .lit (.int .i64 (((f s).getD 0 : Nat) : Int)))
    (hm : IsMap D) (h' : w'.ownsMap Tryz.prog 9 (plainElem Tryz.prog 3) B (n + 1) (D.put (skey s) (.lit (.int .i64 (m : Int))))) : MapAt w' B (n + 1) (fput f s m) := by
  refine ⟨_, h', fun t => ?_⟩
  unfold fput
  by_cases e : t = s
  · subst e
    simp only [if_true, Option.isSome_some, Option.getD_some]
    exact ⟨has_put_same hm (show WideAt.IsKeyLit (.string _) from trivial) _, atKey_put_same hm (show WideAt.IsKeyLit (.string _) from trivial) _ _⟩
  · have hne : skey t ≠ skey s := fun h => e (skey_inj h)
    rw [if_neg e, has_put_other hne, atKey_put_other hne]
    exact hD t
theorem wpList_store_at (w : World) {ops : Array Oper} {rest : List Oper} {o : Oper} {a : Act} {Q : Exit → Act → World → Prop} (hg : o.guard = none) (m x v : Operand) (hop : o.op = Op.mapUpdate 126 m x v) (B n q : Nat) (s : ByteArray) (f : ByteArray → Option Nat)
    (hm : a.eval m = .map (some B)) (hown : MapAt w B n f) (hn : n < maxLen) (hx : a.eval x = .string s) (hv : a.eval v = .int .i64 (q : Int)) (hs : s.size ≤ maxLen) (hq : q ≤ 1099511627776)
    (hK : ∀ w', MapAt w' B (n + 1) (fput f s q) → w.grownBy w' (some B) → wpList Tryz.prog ops Q rest (a.put o.dst undef) w') : wpList Tryz.prog ops Q (o :: rest) a w := by
  obtain ⟨D, h, k⟩ := hown
  have wf : (Lit.int .i64 (q : Int)).wf = true := WalkArith.wf_i64 (by omega)
  exact wpList_mapUpdate_own w hg m x v 126 hop 9 3 mapKeyed Tryz.underlying126 _ B n D hm h hn _ _ _ hx hv (keyOf_string_mk Tryz.underlying9 hs) _ [] (plainElem_int Tryz.underlying3 wf) (fun w' h1 h2 => hK w' (MapAt.put k h.isMap h1) h2)
theorem Blk.grown {w w' : World} {g : Nat} {t : TypeId} {cs : Array Value} {row : Option Nat} (h : Blk w g t cs) (hg : w.grownBy w' row) (hne : some g ≠ row) : Blk w' g t cs := (hg.block g h.lt hne).trans h
theorem Ext.mapGrown {W w w' : World} {B : Nat} (he : Ext W w) (hg : w.grownBy w' (some B)) (hB : W.heap.size ≤ B) : Ext W w' := Below.grown he hg he.size (fun k hk => by cases hk; exact hB)
end Go.Proofs.YtichegndafnjeaaGreat

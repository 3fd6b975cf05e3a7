/-
  Lift; Facts; Small; Args: No condition.
-/
import Derived.Lib.Hide
import Derived.WalkKit
import Derived.ProofKit
import Derived.OpenShut
import Derived.ShutString
import Derived.ChangeOld
import Derived.Below
import Derived.Carry
import Derived.Lib.SmallJoins
import Derived.Deep.Slices
import Derived.Test.YtgeengkdgdjcjaaGreatChecked
import Derived.Test.YtgeengkdgdjcjaaGreatProg
import Derived.Outline
import Derived.WalkSpells
import Derived.WalkLawsBesides
import Derived.Handy
import Derived.LoopTactic
import Derived.Deep.LoopGhost
import Derived.Deep.QuietTactic
import Derived.BigQuiet
import Derived.Deep.DeepCutAuto
import Derived.Deep.RegionHeld3
import Derived.StillTailTactics
namespace Go.Proofs.YtgeengkdgdjcjaaGreat
open Go.ChangeShapes Go.WideShapes Go.ChangeAt Go.RowKit Go.Deep
open Go.ChangeMaps (open_string shut_string)
set_option linter.unusedSimpArgs false
set_option linter.unusedVariables false
theorem hU {p : Prop} (h : p) : RowKit.Hid p := Lib.hid h
theorem trodAll_stays {H : Type} {enc : TypeId × Value → H} {P : Program} (hl : laidOutB P = true) {W W' : World} (hb : Below W.heap.size W W') :
 ∀ (ts : List TypeId), (∀ t ∈ ts, P.readableRec t = true ∧ t < P.types.size) → ∀ (vs : List Value) (ds : List (DataW H)) (ps : List MemPlace),
  DataW.TrodAll enc P W 0 (fun _ => true) true ts vs ds ps → DataW.TrodAll enc P W' 0 (fun b => decide (b < W.heap.size)) true ts vs ds ps
 | [], _, vs, ds, ps, h => by
   obtain ⟨rfl, rfl, rfl⟩ := trodAll_nil h
   simp [DataW.TrodAll]
 | t :: ts, hr, vs, ds, ps, h => by
   obtain ⟨v, vs', d, ds', p, q, rfl, rfl, rfl, h0, h1⟩ := trodAll_cons h
   have k0 := h0
   have lt0 : ∀ x ∈ p, x.block < W.heap.size := by obtain ⟨m, hm⟩ := k0; exact DataW.trod_lt m _ _ _ hm
   obtain ⟨r1, r2⟩ := hr t (by simp)
   exact trodAll_cons_mk (Below.trod hl r1 r2 h0 hb lt0) (trodAll_stays hl hb ts (fun t' ht' => hr t' (by simp [ht'])) _ _ _ h1)
def Given (P : Program) (W : World) (ts : List TypeId) (args : Array Value) : Prop :=
 ∃ (H : Type) (enc : TypeId × Value → H) (base : Nat) (ds : List (DataW H)) (ps : List MemPlace),
  (∀ (j : Nat) t v, ts[j]? = some t → args[j]? = some v → Value.okWide P W .any base t v) ∧ DataW.TrodAll enc P W 0 (fun _ => true) true ts args.toList ds ps
theorem lawLifted {C : Checked} {os : Os} {f : FuncId} {fn : Func} {s : ChangeSpec} {H : Type} {enc : TypeId × Value → H} {tb : TypeId}
 (own : ownKnob C.prog.godebug = none) (laid : laidOutB C.prog = true) (started : os.Started) (noInit : C.prog.inits.idxOf? f = none) (hfn : C.prog.funcs[f]? = some fn)
 (hts : fn.params.toList.all (fun t => C.prog.readableRec t && decide (t < C.prog.types.size)) = true) (hvars : s.vars = [])
 (hrt : fn.resultTypes = #[tb]) (htb : C.prog.underlying tb = some .bool)
 (hspec : ∀ ds : List (DataW H), ds.length = fn.params.size → s.fn H (ds ++ []) = { results := [.lit (.bool true)], args := ds })
 (witness : ∃ (w : World) (tape : Tape) (i : Input), w.os = os ∧ (w.forCall tape i).Shaped C.prog ∧ i.vars = [] ∧ Input.okWide C.prog (w.forCall tape i) .any w.heap.size f i ∧
  s.pre6 enc C.prog fn [] false (w.forCall tape i).memory i.args ∧ Assume.holds {} C.prog (lone (Frame.enter C.prog f i.args .normal) [] (w.forCall tape i)))
 (walk : ∀ (W : World) (args : Array Value), Given C.prog W fn.params.toList args → Calls C.prog f args W fun e W' => e = .returned (.bool true) ∧ Below W.heap.size W W') :
 ReturnsInHanded {} C os f .any (s.pre6 enc C.prog fn [] false) (s.post enc C.prog fn false true false false) := by
 refine returnsInHanded_of_change own started noInit hfn witness ?_
 intro W base args ds gs before hval hW _ _
 have hW' := hW
 obtain ⟨p, q, hA, hV, rfl, hfz, hnd⟩ := hW
 rw [hvars] at hV
 obtain ⟨rfl, rfl⟩ := trodVars_none hV
 have hg : Given C.prog W fn.params.toList args := ⟨H, enc, base, ds, p, fun j t v h1 h2 => hval j t v (by simpa using h1) h2, hA⟩
 refine (walk W args hg).mono fun e W' ⟨he, hb⟩ => ?_
 subst he
 have hlen : ds.length = fn.params.size := by
  have : ∀ (ts : List TypeId) (vs : List Value) (ds : List (DataW H)) (ps : List MemPlace), DataW.TrodAll enc C.prog W 0 (fun _ => true) true ts vs ds ps → ds.length = ts.length := by
   intro ts
   induction ts with
   | nil => intro vs ds ps h; obtain ⟨rfl, rfl, rfl⟩ := trodAll_nil h; rfl
   | cons t ts ih => intro vs ds ps h; obtain ⟨v, vs', d, ds', p, q, rfl, rfl, rfl, h0, h1⟩ := trodAll_cons h; simp [ih _ _ _ h1]
  simpa using this _ _ _ _ hA
 have hts' : ∀ t ∈ fn.params.toList, C.prog.readableRec t = true ∧ t < C.prog.types.size := by
  intro t ht
  have := List.all_eq_true.1 hts t ht
  simpa using this
 refine ⟨_, rfl, ds, [], _, [], p, [], hW', ?_, ?_, ?_, hb.frame _, fun h => by cases h⟩
 · rw [hspec ds hlen, hrt]
   exact trodAll_mk1 (shut_bool htb _)
 · rw [hspec ds hlen]
   exact trodAll_stays laid hb _ hts' _ _ _ hA
 · rw [hspec ds hlen, hvars]
   rfl
theorem lawOver {p : Pinned} {c : OpenClaim} {s : ChangeSpec} (f : FuncId) (fn : Func) (tb : TypeId)
 (own : ownKnob p.checked.prog.godebug = none) (laid : laidOutB p.checked.prog = true) (noInit : p.checked.prog.inits.idxOf? f = none)
 (hts : fn.params.toList.all (fun t => p.checked.prog.readableRec t && decide (t < p.checked.prog.types.size)) = true) (hvars : s.vars = [])
 (hrt : fn.resultTypes = #[tb]) (htb : p.checked.prog.underlying tb = some .bool)
 (hspec : ∀ (H : Type) (ds : List (DataW H)), ds.length = fn.params.size → s.fn H (ds ++ []) = { results := [.lit (.bool true)], args := ds })
 (hn : c.program = p.name) (hs : c.sum = p.sum) (hsp : c.spec = s.name)
 (hstart : c.start = .entering) (hout : c.outside = []) (hin : c.inits = []) (hun : c.under = none) (hi4 : c.initsInPlace = [] ∧ c.initsUnfollowed = false ∧ c.initsRecurse = false ∧ c.initsNamed = [] ∧ c.initsPassed = []) (hnb : c.noBlocks = false) (hlv : c.leaving = false) (hfo : c.followed = none) (hnar : c.narrowed = false) (hstill : c.still = false)
 (hfn : p.checked.prog.funcNamed c.func = some f) (hf : p.checked.prog.funcs[f]? = some fn)
 (closed : joinedFacts p.checked.prog f fn s c = true)
 (hinst : fn.isInstance p.checked.prog c.origin c.targs) (hwrap : fn.isWrapper p.checked.prog c.wrapper c.mainSum)
 (hass : c.assume = {}) (hdom : c.domain = []) (halts : ∀ (H : Type) (enc : TypeId × Value → H), c.pre enc p.checked.prog fn (OpenSpec.ofChange s) = s.pre6 enc p.checked.prog fn [] false)
 (hap : c.apart = false) (hfr : c.fresh = true) (hho : c.handsOn = false) (hag : c.again = false)
 (witness : ∀ (os : Os), os.Started → ∀ (H : Type) (enc : TypeId × Value → H), ∃ (w : World) (tape : Tape) (i : Input), w.os = os ∧ (w.forCall tape i).Shaped p.checked.prog ∧ i.vars = [] ∧ Input.okWide p.checked.prog (w.forCall tape i) .any w.heap.size f i ∧
  s.pre6 enc p.checked.prog fn [] false (w.forCall tape i).memory i.args ∧ Assume.holds {} p.checked.prog (lone (Frame.enter p.checked.prog f i.args .normal) [] (w.forCall tape i)))
 (walk : ∀ (W : World) (args : Array Value), Given p.checked.prog W fn.params.toList args → Calls p.checked.prog f args W fun e W' => e = .returned (.bool true) ∧ Below W.heap.size W W') :
 c.holds p (OpenSpec.ofChange s) := by
 refine OpenClaim.holds_of_wide f fn hn hs hsp hstart hout hin hun hi4 hnb hlv hfo hnar hstill hfn hf closed hinst hwrap ?_
 intro os started H enc _
 rw [hass, halts, hap, hfr, hho, hag]
 exact lawLifted own laid started noInit hf hts hvars hrt htb (hspec H) (witness os started H enc) walk
end Go.Proofs.YtgeengkdgdjcjaaGreat
namespace Go.Proofs.YtgeengkdgdjcjaaGreat
theorem own : ownKnob Tryz.prog.godebug = none := by kernel_rfl
theorem laidOut : laidOutB Tryz.prog = true := by kernel_rfl
end Go.Proofs.YtgeengkdgdjcjaaGreat
namespace Go.Proofs.YtgeengkdgdjcjaaGreat
set_option linter.unusedSimpArgs false
open Go.RowKit
set_option linter.unusedVariables false
abbrev Ext (W w : World) : Prop := Below W.heap.size W w
theorem Ext.next {W w1 w2 : World} (h : Ext W w1) (h2 : Ext w1 w2) : Ext W w2 := h.trans (h2.mono h.size)
theorem Ext.new {W w1 : World} (h : Ext W w1) (o : Obj) : Ext W (w1.alloc o) := Below.alloc h h.size o
def Blk (w : World) (g : Nat) (t : TypeId) (cs : Array Value) : Prop := w.heap[g]? = some (.cells cs t (0, 0))
section
variable {w w' : World} {g : Nat} {t : TypeId} {cs : Array Value}
theorem Blk.lt (h : Blk w g t cs) : g < w.heap.size := by
 rcases Nat.lt_or_ge g w.heap.size with hlt | hge
 · exact hlt
 · unfold Blk at h; rw [Array.getElem?_eq_none hge] at h; cases h
theorem Blk.cell (h : Blk w g t cs) (i : Nat) : w.cell? ⟨g, i, none⟩ = cs[i]? := cell_of_row w g i cs t (0, 0) h
theorem Blk.frozen (h : Blk w g t cs) (i : Nat) : w.frozen? ⟨g, i, none⟩ = false := by
 unfold Blk at h
 simp [World.frozen?, h]
theorem Blk.new (w : World) (t : TypeId) (cs : Array Value) : Blk (w.alloc (.cells cs t)) w.heap.size t cs := heap_alloc_new w _
theorem Blk.drew (h : Blk w g t cs) : Blk w.drew g t cs := h
theorem Blk.drewN (h : Blk w g t cs) (n : Nat) : Blk (w.drewN n) g t cs := h
theorem Blk.alloc (h : Blk w g t cs) (o : Obj) : Blk (w.alloc o) g t cs := (Below.heap_alloc w o g h.lt).trans h
theorem Blk.set_ (h : Blk w g t cs) (i : Nat) (u : Value) : Blk (w.setCell ⟨g, i, none⟩ u) g t (cs.setIfInBounds i u) := by
 unfold Blk at h ⊢
 simp [World.setCell, Array.getElem?_modify, h]
theorem Blk.far (h : Blk w g t cs) {p : Addr} (hp : g ≠ p.block) (u : Value) : Blk (w.setCell p u) g t cs := (Below.heap_setCell w p u g hp).trans h
theorem Blk.ext (h : Blk w g t cs) (hb : Ext w w') : Blk w' g t cs := (hb.block g h.lt).trans h
theorem Blk.rules (h : Blk w g t cs) : (∀ i, w.cell? ⟨g, i, none⟩ = cs[i]?) ∧ (∀ i, w.frozen? ⟨g, i, none⟩ = false) := ⟨h.cell, h.frozen⟩
end
def inR (n a b : Int) : Bool := decide (a ≤ n) && decide (n ≤ b)
theorem inR_true {n a b : Int} (h : inR n a b = true) : a ≤ n ∧ n ≤ b := by simpa [inR] using h
theorem inRange_any (n a b : Int) (w : World) : Calls Tryz.prog 117 #[.int .i64 n, .int .i64 a, .int .i64 b] w fun e w' => e = .returned (.bool (inR n a b)) ∧ w = w' := by
 by_cases h1 : a ≤ n <;> by_cases h2 : n ≤ b
 all_goals
  go_enter Tryz.func117, Tryz.ntmps117
  go_wp2
  go_ret
  exact ⟨by simp [inR, *], rfl⟩
theorem l01In_any (n a b : Int) (w : World) : Calls Tryz.prog 116 #[.int .i64 n, .int .i64 a, .int .i64 b] w fun e w' => e = .returned (.bool (inR n a b)) ∧ w = w' := by
 by_cases h1 : a ≤ n <;> by_cases h2 : n ≤ b
 all_goals
  go_enter Tryz.func116, Tryz.ntmps116
  go_wp2
  go_ret
  exact ⟨by simp [inR, *], rfl⟩
end Go.Proofs.YtgeengkdgdjcjaaGreat
namespace Go.Proofs.YtgeengkdgdjcjaaGreat
open Go.ChangeShapes Go.WideShapes Go.ChangeAt Go.RowKit Go.Deep
set_option linter.unusedSimpArgs false
set_option linter.unusedVariables false
def Typed (P : Program) (w : World) : Nat → TypeId → List Value → Prop
 | 0, _, _ => False
 | n + 1, t, cs => match P.underlying t with
   | some .bool => ∃ b, cs = [.bool b]
   | some (.int k) => ∃ m, cs = [.int k m] ∧ (Lit.int k m).wf = true
   | some .string => ∃ s : ByteArray, cs = [.string s] ∧ s.size ≤ maxLen
   | some (.slice e) => ∃ A l c, cs = [.slice A l c] ∧ l ≤ c ∧ c ≤ maxLen ∧ (0 < l → ∃ a : Addr, A = some a ∧ (0 < P.cellsOf e → a.block < w.heap.size) ∧
    ∀ i, i < l → ∃ es : List Value, es.length = P.cellsOf e ∧ (∀ j u, es[j]? = some u → w.cell? (a.add (i * P.cellsOf e + j)) = some u) ∧ Typed P w n e es)
   | some (.struct fs) => cs.length = P.cellsOf t ∧ ∀ f ∈ fs.toList, Typed P w n f.type ((cs.drop f.offset).take (P.cellsOf f.type))
   | _ => True
section
variable {H : Type} {enc : TypeId × Value → H} {P : Program} {w : World} {base : Nat} {spare : Nat → Bool} {held : Bool}
theorem cell_lt {w : World} {a : Addr} {v : Value} (h : w.cell? a = some v) : a.block < w.heap.size := by
 rcases Nat.lt_or_ge a.block w.heap.size with hlt | hge
 · exact hlt
 · simp [World.cell?, Array.getElem?_eq_none hge] at h
theorem block_of_add (a : Addr) (n : Nat) : (a.add n).block = a.block := by unfold Addr.add; split <;> rfl
theorem typed_of_trod : ∀ (n : Nat) (t : TypeId) (cs : List Value) (x : DataW H × List MemPlace), DataW.trod enc P w base spare held n t cs = some x → Typed P w n t cs
 | 0, t, cs, x, h => by simp [DataW.trod] at h
 | n + 1, t, cs, x, h => by
   unfold Typed
   split
   · rename_i hu; obtain ⟨b, h1, _⟩ := DataW.trod_bool hu h; exact ⟨b, h1⟩
   · rename_i k hu; obtain ⟨m, h1, _, h2⟩ := DataW.trod_int hu h; exact ⟨m, h1, h2⟩
   · rename_i hu; obtain ⟨s, h1, _, h2⟩ := DataW.trod_string hu h; exact ⟨s, h1, h2⟩
   · rename_i e hu
     rcases DataW.trod_slice hu h with ⟨h1, _⟩ | ⟨a, len, cap, elems, rest, n', hn, h1, _, hb, hl, hm, hlen, hel, _, _⟩
     · exact ⟨none, 0, 0, h1, Nat.le_refl _, Nat.zero_le _, fun h => absurd h (by omega)⟩
     · obtain rfl : n = n' := by omega
       have hes : ∀ i, i < len → ∃ es : List Value, es.length = P.cellsOf e ∧ (∀ j u, es[j]? = some u → w.cell? (a.add (i * P.cellsOf e + j)) = some u) ∧ Typed P w n e es := by
        intro i hi
        have h2 := hel i hi
        rw [List.getElem?_eq_getElem (by omega)] at h2
        obtain ⟨es, h3, h4⟩ := Option.bind_eq_some_iff.1 h2
        obtain ⟨_, h5, h6⟩ := World.cells?_some h3
        refine ⟨es, h5, fun j u hu => ?_, typed_of_trod n _ _ _ h4⟩
        have hj : j < es.length := (List.getElem?_eq_some_iff.1 hu).1
        rw [← Go.Deep.add_add, h6 j (by omega), hu]
       refine ⟨some a, len, cap, h1, hl, hm, fun h0 => ⟨a, rfl, fun hp => ?_, hes⟩⟩
       obtain ⟨es, h5, h6, _⟩ := hes 0 h0
       have := cell_lt (h6 0 _ (List.getElem?_eq_getElem (by omega)))
       rwa [block_of_add] at this
   · rename_i fs hu
     obtain ⟨xs, n', hn, _, hl, hlen, hf⟩ := DataW.trod_struct hu h
     obtain rfl : n = n' := by omega
     refine ⟨hl, fun f hmem => ?_⟩
     obtain ⟨i, hi⟩ := List.getElem?_of_mem hmem
     have hi' : fs[i]? = some f := by simpa using hi
     have hlt : i < fs.size := (Array.getElem?_eq_some_iff.1 hi').1
     have := hf i f hi'
     rw [List.getElem?_eq_getElem (by omega)] at this
     exact typed_of_trod n _ _ _ this
   · trivial
end
theorem Given.size {P : Program} {W : World} {ts : List TypeId} {args : Array Value} (h : Given P W ts args) : args.size = ts.length := by
 obtain ⟨H, enc, base, ds, ps, _, h⟩ := h
 have : ∀ (ts : List TypeId) (vs : List Value) (ds : List (DataW H)) (ps : List MemPlace), DataW.TrodAll enc P W 0 (fun _ => true) true ts vs ds ps → vs.length = ts.length := by
  intro ts
  induction ts with
  | nil => intro vs ds ps h; obtain ⟨rfl, rfl, rfl⟩ := trodAll_nil h; rfl
  | cons t ts ih => intro vs ds ps h; obtain ⟨v, vs', d, ds', p, q, rfl, rfl, rfl, h0, h1⟩ := trodAll_cons h; simp [ih _ _ _ h1]
 simpa using this _ _ _ _ h
theorem Given.arg {P : Program} {W : World} {ts : List TypeId} {args : Array Value} (h : Given P W ts args) (j : Nat) (t : TypeId) (v : Value) (ht : ts[j]? = some t) (hv : args[j]? = some v) :
 ∃ base n, Value.okWide P W .any base t v ∧ Typed P W n t v.cells.toList := by
 obtain ⟨H, enc, base, ds, ps, h1, h2⟩ := h
 have : ∀ (ts : List TypeId) (vs : List Value) (ds : List (DataW H)) (ps : List MemPlace), DataW.TrodAll enc P W 0 (fun _ => true) true ts vs ds ps → ∀ (j : Nat) (t : TypeId) (v : Value), ts[j]? = some t → vs[j]? = some v → ∃ n, Typed P W n t v.cells.toList := by
  intro ts
  induction ts with
  | nil => intro vs ds ps h j t v ht; simp at ht
  | cons t ts ih =>
    intro vs ds ps h j t' v' ht hv
    obtain ⟨v, vs', d, ds', p, q, rfl, rfl, rfl, ⟨n, h0⟩, h1⟩ := trodAll_cons h
    cases j with
    | zero => obtain rfl : t = t' := by simpa using ht
              obtain rfl : v = v' := by simpa using hv
              exact ⟨n, typed_of_trod n _ _ _ h0⟩
    | succ j => exact ih _ _ _ h1 j t' v' (by simpa using ht) (by simpa using hv)
 obtain ⟨n, hn⟩ := this _ _ _ _ h2 j t v ht (by simpa using hv)
 exact ⟨base, n, h1 j t v ht hv, hn⟩
end Go.Proofs.YtgeengkdgdjcjaaGreat

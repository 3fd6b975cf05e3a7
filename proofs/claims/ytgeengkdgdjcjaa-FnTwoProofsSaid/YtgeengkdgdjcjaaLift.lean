/-
  Lift: No condition.
-/
import Derived.Lib.Hide
import Derived.WalkKit
import Derived.ProofKit
import Derived.OpenShut
import Derived.ShutString
import Derived.ChangeOld
import Derived.Below
import Derived.Carry
import Derived.Lib.SmallJoins
import Derived.Deep.Slices
namespace Go.Proofs.Ytgeengkdgdjcjaa
open Go.ChangeShapes Go.WideShapes Go.ChangeAt Go.RowKit Go.Deep
open Go.ChangeMaps (open_string shut_string)
set_option linter.unusedSimpArgs false
set_option linter.unusedVariables false
theorem hU {p : Prop} (h : p) : RowKit.Hid p := Lib.hid h
theorem trodAll_stays {H : Type} {enc : TypeId × Value → H} {P : Program} (hl : laidOutB P = true) {W W' : World} (hb : Below W.heap.size W W') :
 ∀ (ts : List TypeId), (∀ t ∈ ts, P.readableRec t = true ∧ t < P.types.size) → ∀ (vs : List Value) (ds : List (DataW H)) (ps : List MemPlace),
  DataW.TrodAll enc P W 0 (fun _ => true) true ts vs ds ps → DataW.TrodAll enc P W' 0 (fun b => decide (b < W.heap.size)) true ts vs ds ps
 | [], _, vs, ds, ps, h => by
   obtain ⟨rfl, rfl, rfl⟩ := trodAll_nil h
   simp [DataW.TrodAll]
 | t :: ts, hr, vs, ds, ps, h => by
   obtain ⟨v, vs', d, ds', p, q, rfl, rfl, rfl, h0, h1⟩ := trodAll_cons h
   have k0 := h0
   have lt0 : ∀ x ∈ p, x.block < W.heap.size := by obtain ⟨m, hm⟩ := k0; exact DataW.trod_lt m _ _ _ hm
   obtain ⟨r1, r2⟩ := hr t (by simp)
   exact trodAll_cons_mk (Below.trod hl r1 r2 h0 hb lt0) (trodAll_stays hl hb ts (fun t' ht' => hr t' (by simp [ht'])) _ _ _ h1)
def Given (P : Program) (W : World) (ts : List TypeId) (args : Array Value) : Prop :=
 ∃ (H : Type) (enc : TypeId × Value → H) (base : Nat) (ds : List (DataW H)) (ps : List MemPlace),
  (∀ (j : Nat) t v, ts[j]? = some t → args[j]? = some v → Value.okWide P W .any base t v) ∧ DataW.TrodAll enc P W 0 (fun _ => true) true ts args.toList ds ps
theorem lawLifted {C : Checked} {os : Os} {f : FuncId} {fn : Func} {s : ChangeSpec} {H : Type} {enc : TypeId × Value → H} {tb : TypeId}
 (own : ownKnob C.prog.godebug = none) (laid : laidOutB C.prog = true) (started : os.Started) (noInit : C.prog.inits.idxOf? f = none) (hfn : C.prog.funcs[f]? = some fn)
 (hts : fn.params.toList.all (fun t => C.prog.readableRec t && decide (t < C.prog.types.size)) = true) (hvars : s.vars = [])
 (hrt : fn.resultTypes = #[tb]) (htb : C.prog.underlying tb = some .bool)
 (hspec : ∀ ds : List (DataW H), ds.length = fn.params.size → s.fn H (ds ++ []) = { results := [.lit (.bool true)], args := ds })
 (witness : ∃ (w : World) (tape : Tape) (i : Input), w.os = os ∧ (w.forCall tape i).Shaped C.prog ∧ i.vars = [] ∧ Input.okWide C.prog (w.forCall tape i) .any w.heap.size f i ∧
  s.pre6 enc C.prog fn [] false (w.forCall tape i).memory i.args ∧ Assume.holds {} C.prog (lone (Frame.enter C.prog f i.args .normal) [] (w.forCall tape i)))
 (walk : ∀ (W : World) (args : Array Value), Given C.prog W fn.params.toList args → Calls C.prog f args W fun e W' => e = .returned (.bool true) ∧ Below W.heap.size W W') :
 ReturnsInHanded {} C os f .any (s.pre6 enc C.prog fn [] false) (s.post enc C.prog fn false true false false) := by
 refine returnsInHanded_of_change own started noInit hfn witness ?_
 intro W base args ds gs before hval hW _ _
 have hW' := hW
 obtain ⟨p, q, hA, hV, rfl, hfz, hnd⟩ := hW
 rw [hvars] at hV
 obtain ⟨rfl, rfl⟩ := trodVars_none hV
 have hg : Given C.prog W fn.params.toList args := ⟨H, enc, base, ds, p, fun j t v h1 h2 => hval j t v (by simpa using h1) h2, hA⟩
 refine (walk W args hg).mono fun e W' ⟨he, hb⟩ => ?_
 subst he
 have hlen : ds.length = fn.params.size := by
  have : ∀ (ts : List TypeId) (vs : List Value) (ds : List (DataW H)) (ps : List MemPlace), DataW.TrodAll enc C.prog W 0 (fun _ => true) true ts vs ds ps → ds.length = ts.length := by
   intro ts
   induction ts with
   | nil => intro vs ds ps h; obtain ⟨rfl, rfl, rfl⟩ := trodAll_nil h; rfl
   | cons t ts ih => intro vs ds ps h; obtain ⟨v, vs', d, ds', p, q, rfl, rfl, rfl, h0, h1⟩ := trodAll_cons h; simp [ih _ _ _ h1]
  simpa using this _ _ _ _ hA
 have hts' : ∀ t ∈ fn.params.toList, C.prog.readableRec t = true ∧ t < C.prog.types.size := by
  intro t ht
  have := List.all_eq_true.1 hts t ht
  simpa using this
 refine ⟨_, rfl, ds, [], _, [], p, [], hW', ?_, ?_, ?_, hb.frame _, fun h => by cases h⟩
 · rw [hspec ds hlen, hrt]
   exact trodAll_mk1 (shut_bool htb _)
 · rw [hspec ds hlen]
   exact trodAll_stays laid hb _ hts' _ _ _ hA
 · rw [hspec ds hlen, hvars]
   rfl
theorem lawOver {p : Pinned} {c : OpenClaim} {s : ChangeSpec} (f : FuncId) (fn : Func) (tb : TypeId)
 (own : ownKnob p.checked.prog.godebug = none) (laid : laidOutB p.checked.prog = true) (noInit : p.checked.prog.inits.idxOf? f = none)
 (hts : fn.params.toList.all (fun t => p.checked.prog.readableRec t && decide (t < p.checked.prog.types.size)) = true) (hvars : s.vars = [])
 (hrt : fn.resultTypes = #[tb]) (htb : p.checked.prog.underlying tb = some .bool)
 (hspec : ∀ (H : Type) (ds : List (DataW H)), ds.length = fn.params.size → s.fn H (ds ++ []) = { results := [.lit (.bool true)], args := ds })
 (hn : c.program = p.name) (hs : c.sum = p.sum) (hsp : c.spec = s.name)
 (hstart : c.start = .entering) (hout : c.outside = []) (hin : c.inits = []) (hun : c.under = none) (hi4 : c.initsInPlace = [] ∧ c.initsUnfollowed = false ∧ c.initsRecurse = false ∧ c.initsNamed = [] ∧ c.initsPassed = []) (hnb : c.noBlocks = false) (hlv : c.leaving = false) (hfo : c.followed = none) (hnar : c.narrowed = false) (hstill : c.still = false)
 (hfn : p.checked.prog.funcNamed c.func = some f) (hf : p.checked.prog.funcs[f]? = some fn)
 (closed : joinedFacts p.checked.prog f fn s c = true)
 (hinst : fn.isInstance p.checked.prog c.origin c.targs) (hwrap : fn.isWrapper p.checked.prog c.wrapper c.mainSum)
 (hass : c.assume = {}) (hdom : c.domain = []) (halts : ∀ (H : Type) (enc : TypeId × Value → H), c.pre enc p.checked.prog fn (OpenSpec.ofChange s) = s.pre6 enc p.checked.prog fn [] false)
 (hap : c.apart = false) (hfr : c.fresh = true) (hho : c.handsOn = false) (hag : c.again = false)
 (witness : ∀ (os : Os), os.Started → ∀ (H : Type) (enc : TypeId × Value → H), ∃ (w : World) (tape : Tape) (i : Input), w.os = os ∧ (w.forCall tape i).Shaped p.checked.prog ∧ i.vars = [] ∧ Input.okWide p.checked.prog (w.forCall tape i) .any w.heap.size f i ∧
  s.pre6 enc p.checked.prog fn [] false (w.forCall tape i).memory i.args ∧ Assume.holds {} p.checked.prog (lone (Frame.enter p.checked.prog f i.args .normal) [] (w.forCall tape i)))
 (walk : ∀ (W : World) (args : Array Value), Given p.checked.prog W fn.params.toList args → Calls p.checked.prog f args W fun e W' => e = .returned (.bool true) ∧ Below W.heap.size W W') :
 c.holds p (OpenSpec.ofChange s) := by
 refine OpenClaim.holds_of_wide f fn hn hs hsp hstart hout hin hun hi4 hnb hlv hfo hnar hstill hfn hf closed hinst hwrap ?_
 intro os started H enc _
 rw [hass, halts, hap, hfr, hho, hag]
 exact lawLifted own laid started noInit hf hts hvars hrt htb (hspec H) (witness os started H enc) walk
end Go.Proofs.Ytgeengkdgdjcjaa

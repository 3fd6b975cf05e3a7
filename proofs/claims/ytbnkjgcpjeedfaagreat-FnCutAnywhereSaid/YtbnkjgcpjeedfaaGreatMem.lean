/-
  Lift; Facts; Small; Args; Mem: No condition.
-/
import Derived.Lib.Hide
import Derived.WalkKit
import Derived.ProofKit
import Derived.OpenShut
import Derived.ShutString
import Derived.ChangeOld
import Derived.Below
import Derived.Carry
import Derived.Lib.SmallJoins
import Derived.Deep.Slices
import Derived.Test.YtbnkjgcpjeedfaaGreatChecked
import Derived.Test.YtbnkjgcpjeedfaaGreatProg
import Derived.Outline
import Derived.WalkSpells
import Derived.WalkLawsBesides
import Derived.Handy
import Derived.LoopTactic
import Derived.Deep.LoopGhost
import Derived.Deep.QuietTactic
import Derived.BigQuiet
import Derived.Deep.DeepCutAuto
import Derived.Deep.RegionHeld3
import Derived.StillTailTactics
import Derived.Deep.MidRow
import Derived.Laws.MakeOwn
import Derived.Laws.ResultCell
import Derived.Laws.Rows
namespace Go.Proofs.YtbnkjgcpjeedfaaGreat
open Go.ChangeShapes Go.WideShapes Go.ChangeAt Go.RowKit Go.Deep
open Go.ChangeMaps (open_string shut_string)
set_option linter.unusedSimpArgs false
set_option linter.unusedVariables false
theorem hU{p:Prop}(h:p):RowKit.Hid p:=Lib.hid h
theorem Qj4{H:Type}{enc:TypeId × Value->H}{P:Program}(hl:laidOutB P=true){W W':World}(hb:Below W.heap.size W W') :
 ∀(ts:List TypeId),(∀ t∈ts,P.readableRec t=true/\t<P.types.size)->∀(vs:List Value) (ds:List (DataW H)) (ps:List MemPlace),
  DataW.TrodAll enc P W 0 (fun _=>true) true ts vs ds ps->DataW.TrodAll enc P W' 0 (fun b=>decide (b<W.heap.size)) true ts vs ds ps
 | [],_,vs,ds,ps,h=>by
   obtain⟨rfl,rfl,rfl⟩:=trodAll_nil h
   simp[DataW.TrodAll]
 | t :: ts,hr,vs,ds,ps,h=>by
   obtain⟨v,vs',d,ds',p,q,rfl,rfl,rfl,h0,h1⟩:=trodAll_cons h
   have k0:=h0
   have lt0:∀ x∈p,x.block<W.heap.size:=by obtain⟨m,hm⟩:=k0;exact DataW.trod_lt m _ _ _ hm
   obtain⟨r1,r2⟩:=hr t (by simp)
   exact trodAll_cons_mk (Below.trod hl r1 r2 h0 hb lt0) (Qj4 hl hb ts (fun t' ht'=>hr t' (by simp[ht'])) _ _ _ h1)
def Qtt (P:Program) (W:World) (ts:List TypeId) (args:Array Value):Prop:=
 ∃(H:Type) (enc:TypeId × Value->H) (base:Nat) (ds:List (DataW H)) (ps:List MemPlace),
  (∀(j:Nat) t v,ts[j]?=some t->args[j]?=some v->Value.okWide P W .any base t v)/\DataW.TrodAll enc P W 0 (fun _=>true) true ts args.toList ds ps
theorem Qxv{C:Checked}{os:Os}{f:FuncId}{fn:Func}{s:ChangeSpec}{H:Type}{enc:TypeId × Value->H}{tb:TypeId}
 (own:ownKnob C.prog.godebug=none) (laid:laidOutB C.prog=true) (started:os.Started) (noInit:C.prog.inits.idxOf? f=none) (hfn:C.prog.funcs[f]?=some fn)
 (hts:fn.params.toList.all (fun t=>C.prog.readableRec t&&decide (t<C.prog.types.size))=true) (hvars:s.vars=[])
 (hrt:fn.resultTypes=#[tb]) (htb:C.prog.underlying tb=some .bool)
 (hspec:∀ ds:List (DataW H),ds.length=fn.params.size->s.fn H (ds++[])={ results:=[.lit (.bool true)],args:=ds })
 (witness:∃(w:World) (tape:Tape) (i:Input),w.os=os/\(w.forCall tape i).Shaped C.prog/\i.vars=[]/\Input.okWide C.prog (w.forCall tape i) .any w.heap.size f i/\
  s.pre6 enc C.prog fn [] false (w.forCall tape i).memory i.args/\Assume.holds {} C.prog (lone (Frame.enter C.prog f i.args .normal) [] (w.forCall tape i)))
 (walk:∀(W:World) (args:Array Value),Qtt C.prog W fn.params.toList args->Calls C.prog f args W fun e W'=>e=.returned (.bool true)/\Below W.heap.size W W') :
 ReturnsInHanded {} C os f .any (s.pre6 enc C.prog fn [] false) (s.post enc C.prog fn false true false false):=by
 refine returnsInHanded_of_change own started noInit hfn witness ?_
 intro W base args ds gs before hval hW _ _
 have hW':=hW
 obtain⟨p,q,hA,hV,rfl,hfz,hnd⟩:=hW
 rw[hvars] at hV
 obtain⟨rfl,rfl⟩:=trodVars_none hV
 have hg:Qtt C.prog W fn.params.toList args:=⟨H,enc,base,ds,p,fun j t v h1 h2=>hval j t v (by simpa using h1) h2,hA⟩
 refine(walk W args hg).mono fun e W' ⟨he,hb⟩=>?_
 subst he
 have hlen:ds.length=fn.params.size:=by
  have:∀(ts:List TypeId) (vs:List Value) (ds:List (DataW H)) (ps:List MemPlace),DataW.TrodAll enc C.prog W 0 (fun _=>true) true ts vs ds ps->ds.length=ts.length:=by
   intro ts
   induction ts with
   | nil=>intro vs ds ps h;obtain⟨rfl,rfl,rfl⟩:=trodAll_nil h;rfl
   | cons t ts ih=>intro vs ds ps h;obtain⟨v,vs',d,ds',p,q,rfl,rfl,rfl,h0,h1⟩:=trodAll_cons h;simp[ih _ _ _ h1]
  simpa using this _ _ _ _ hA
 have hts':∀ t∈fn.params.toList,C.prog.readableRec t=true/\t<C.prog.types.size:=by
  intro t ht
  have:=List.all_eq_true.1 hts t ht
  simpa using this
 refine⟨_,rfl,ds,[],_,[],p,[],hW',?_,?_,?_,hb.frame _,fun h=>by cases h⟩
 · rw[hspec ds hlen,hrt]
   exact trodAll_mk1 (shut_bool htb _)
 · rw[hspec ds hlen]
   exact Qj4 laid hb _ hts' _ _ _ hA
 · rw[hspec ds hlen,hvars]
   rfl
theorem lawOver{p:Pinned}{c:OpenClaim}{s:ChangeSpec}(f:FuncId)(fn:Func)(tb:TypeId)
 (own:ownKnob p.checked.prog.godebug=none) (laid:laidOutB p.checked.prog=true) (noInit:p.checked.prog.inits.idxOf? f=none)
 (hts:fn.params.toList.all (fun t=>p.checked.prog.readableRec t&&decide (t<p.checked.prog.types.size))=true) (hvars:s.vars=[])
 (hrt:fn.resultTypes=#[tb]) (htb:p.checked.prog.underlying tb=some .bool)
 (hspec:∀(H:Type) (ds:List (DataW H)),ds.length=fn.params.size->s.fn H (ds++[])={ results:=[.lit (.bool true)],args:=ds })
 (hn:c.program=p.name) (hs:c.sum=p.sum) (hsp:c.spec=s.name)
 (hstart:c.start=.entering) (hout:c.outside=[]) (hin:c.inits=[]) (hun:c.under=none) (hi4:c.initsInPlace=[]/\c.initsUnfollowed=false/\c.initsRecurse=false/\c.initsNamed=[]/\c.initsPassed=[]) (hnb:c.noBlocks=false) (hlv:c.leaving=false) (hfo:c.followed=none) (hnar:c.narrowed=false) (hstill:c.still=false)
 (hfn:p.checked.prog.funcNamed c.func=some f) (hf:p.checked.prog.funcs[f]?=some fn)
 (closed:joinedFacts p.checked.prog f fn s c=true)
 (hinst:fn.isInstance p.checked.prog c.origin c.targs) (hwrap:fn.isWrapper p.checked.prog c.wrapper c.mainSum)
 (hass:c.assume={}) (hdom:c.domain=[]) (halts:∀(H:Type) (enc:TypeId × Value->H),c.pre enc p.checked.prog fn (OpenSpec.ofChange s)=s.pre6 enc p.checked.prog fn [] false)
 (hap:c.apart=false) (hfr:c.fresh=true) (hho:c.handsOn=false) (hag:c.again=false)
 (witness:∀(os:Os),os.Started->∀(H:Type) (enc:TypeId × Value->H),∃(w:World) (tape:Tape) (i:Input),w.os=os/\(w.forCall tape i).Shaped p.checked.prog/\i.vars=[]/\Input.okWide p.checked.prog (w.forCall tape i) .any w.heap.size f i/\
  s.pre6 enc p.checked.prog fn [] false (w.forCall tape i).memory i.args/\Assume.holds {} p.checked.prog (lone (Frame.enter p.checked.prog f i.args .normal) [] (w.forCall tape i)))
 (walk:∀(W:World) (args:Array Value),Qtt p.checked.prog W fn.params.toList args->Calls p.checked.prog f args W fun e W'=>e=.returned (.bool true)/\Below W.heap.size W W') :
 c.holds p (OpenSpec.ofChange s):=by
 refine OpenClaim.holds_of_wide f fn hn hs hsp hstart hout hin hun hi4 hnb hlv hfo hnar hstill hfn hf closed hinst hwrap ?_
 intro os started H enc _
 rw[hass,halts,hap,hfr,hho,hag]
 exact Qxv own laid started noInit hf hts hvars hrt htb (hspec H) (witness os started H enc) walk
end Go.Proofs.YtbnkjgcpjeedfaaGreat
namespace Go.Proofs.YtbnkjgcpjeedfaaGreat
theorem own:ownKnob Tryz.prog.godebug=none:=by kernel_rfl
theorem laidOut:laidOutB Tryz.prog=true:=by kernel_rfl
end Go.Proofs.YtbnkjgcpjeedfaaGreat
namespace Go.Proofs.YtbnkjgcpjeedfaaGreat
set_option linter.unusedSimpArgs false
open Go.RowKit
set_option linter.unusedVariables false
abbrev Ext (W w:World):Prop:=Below W.heap.size W w
theorem Ext.next{W w1 w2:World}(h:Ext W w1)(h2:Ext w1 w2):Ext W w2:=h.trans (h2.mono h.size)
theorem Ext.new{W w1:World}(h:Ext W w1)(o:Obj):Ext W (w1.alloc o):=Below.alloc h h.size o
def Blk (w:World) (g:Nat) (t:TypeId) (cs:Array Value):Prop:=w.heap[g]?=some (.cells cs t (0,0))
section
variable {w w' : World} {g : Nat} {t : TypeId} {cs : Array Value}
theorem Blk.lt(h:Blk w g t cs):g<w.heap.size:=by
 rcases Nat.lt_or_ge g w.heap.size with hlt|hge
 · exact hlt
 · unfold Blk at h;rw[Array.getElem?_eq_none hge] at h;cases h
theorem Blk.cell(h:Blk w g t cs)(i:Nat):w.cell? ⟨g,i,none⟩=cs[i]?:=cell_of_row w g i cs t (0,0) h
theorem Blk.frozen(h:Blk w g t cs)(i:Nat):w.frozen? ⟨g,i,none⟩=false:=by
 unfold Blk at h
 simp[World.frozen?,h]
theorem Blk.new(w:World)(t:TypeId)(cs:Array Value):Blk (w.alloc (.cells cs t)) w.heap.size t cs:=heap_alloc_new w _
theorem Blk.drew(h:Blk w g t cs):Blk w.drew g t cs:=h
theorem Blk.drewN(h:Blk w g t cs)(n:Nat):Blk (w.drewN n) g t cs:=h
theorem Blk.alloc(h:Blk w g t cs)(o:Obj):Blk (w.alloc o) g t cs:=(Below.heap_alloc w o g h.lt).trans h
theorem Blk.set_(h:Blk w g t cs)(i:Nat)(u:Value):Blk (w.setCell ⟨g,i,none⟩ u) g t (cs.setIfInBounds i u):=by
 unfold Blk at h ⊢
 simp[World.setCell,Array.getElem?_modify,h]
theorem Blk.far(h:Blk w g t cs){p:Addr}(hp:g≠p.block)(u:Value):Blk (w.setCell p u) g t cs:=(Below.heap_setCell w p u g hp).trans h
theorem Blk.ext(h:Blk w g t cs)(hb:Ext w w'):Blk w' g t cs:=(hb.block g h.lt).trans h
theorem Blk.rules(h:Blk w g t cs):(∀ i,w.cell? ⟨g,i,none⟩=cs[i]?)/\(∀ i,w.frozen? ⟨g,i,none⟩=false):=⟨h.cell,h.frozen⟩
end
def inR (n a b:Int):Bool:=decide (a<=n)&&decide (n<=b)
theorem Qa0{n a b:Int}(h:inR n a b=true):a<=n/\n<=b:=by simpa [inR] using h
theorem Qba(n a b:Int)(w:World):Calls Tryz.prog 108 #[.int .i64 n,.int .i64 a,.int .i64 b] w fun e w'=>e=.returned (.bool (inR n a b))/\w=w':=by
 by_cases h1:a<=n <;> by_cases h2:n<=b
 all_goals
  go_enter Tryz.func108,Tryz.ntmps108
  go_wp2
  go_ret
  exact⟨by simp[inR, *],rfl⟩
theorem Qcd(n a b:Int)(w:World):Calls Tryz.prog 107 #[.int .i64 n,.int .i64 a,.int .i64 b] w fun e w'=>e=.returned (.bool (inR n a b))/\w=w':=by
 by_cases h1:a<=n <;> by_cases h2:n<=b
 all_goals
  go_enter Tryz.func107,Tryz.ntmps107
  go_wp2
  go_ret
  exact⟨by simp[inR, *],rfl⟩
end Go.Proofs.YtbnkjgcpjeedfaaGreat
namespace Go.Proofs.YtbnkjgcpjeedfaaGreat
open Go.ChangeShapes Go.WideShapes Go.ChangeAt Go.RowKit Go.Deep
set_option linter.unusedSimpArgs false
set_option linter.unusedVariables false
def Qlv (P:Program) (w:World):Nat->TypeId->List Value->Prop
 | 0,_,_=>False
 | n+1,t,cs=>match P.underlying t with
   | some .bool=>∃ b,cs=[.bool b]
   | some (.int k)=>∃ m,cs=[.int k m]/\(Lit.int k m).wf=true
   | some .string=>∃ s:ByteArray,cs=[.string s]/\s.size<=maxLen
   | some (.slice e)=>∃ A l c,cs=[.slice A l c]/\l<=c/\c<=maxLen/\(0<l->∃ a:Addr,A=some a/\(0<P.cellsOf e->a.block<w.heap.size)/\
    ∀ i,i<l->∃ es:List Value,es.length=P.cellsOf e/\(∀ j u,es[j]?=some u->w.cell? (a.add (i*P.cellsOf e+j))=some u)/\Qlv P w n e es)
   | some (.struct fs)=>cs.length=P.cellsOf t/\∀ f∈fs.toList,Qlv P w n f.type ((cs.drop f.offset).take (P.cellsOf f.type))
   | _=>True
section
variable {H : Type} {enc : TypeId × Value → H} {P : Program} {w : World} {base : Nat} {spare : Nat → Bool} {held : Bool}
theorem cell_lt{w:World}{a:Addr}{v:Value}(h:w.cell? a=some v):a.block<w.heap.size:=by
 rcases Nat.lt_or_ge a.block w.heap.size with hlt|hge
 · exact hlt
 · simp[World.cell?,Array.getElem?_eq_none hge] at h
theorem Qsb(a:Addr)(n:Nat):(a.add n).block=a.block:=by unfold Addr.add;split <;> rfl
theorem Qhf:∀(n:Nat) (t:TypeId) (cs:List Value) (x:DataW H × List MemPlace),DataW.trod enc P w base spare held n t cs=some x->Qlv P w n t cs
 | 0,t,cs,x,h=>by simp[DataW.trod] at h
 | n+1,t,cs,x,h=>by
   unfold Qlv
   split
   · rename_i hu;obtain⟨b,h1,_⟩:=DataW.trod_bool hu h;exact⟨b,h1⟩
   · rename_i k hu;obtain⟨m,h1,_,h2⟩:=DataW.trod_int hu h;exact⟨m,h1,h2⟩
   · rename_i hu;obtain⟨s,h1,_,h2⟩:=DataW.trod_string hu h;exact⟨s,h1,h2⟩
   · rename_i e hu
     rcases DataW.trod_slice hu h with⟨h1,_⟩|⟨a,len,cap,elems,rest,n',hn,h1,_,hb,hl,hm,hlen,hel,_,_⟩
     · exact⟨none,0,0,h1,Nat.le_refl _,Nat.zero_le _,fun h=>absurd h (by omega)⟩
     · obtain rfl:n=n':=by omega
       have hes:∀ i,i<len->∃ es:List Value,es.length=P.cellsOf e/\(∀ j u,es[j]?=some u->w.cell? (a.add (i*P.cellsOf e+j))=some u)/\Qlv P w n e es:=by
        intro i hi
        have h2:=hel i hi
        rw[List.getElem?_eq_getElem (by omega)] at h2
        obtain⟨es,h3,h4⟩:=Option.bind_eq_some_iff.1 h2
        obtain⟨_,h5,h6⟩:=World.cells?_some h3
        refine⟨es,h5,fun j u hu=>?_,Qhf n _ _ _ h4⟩
        have hj:j<es.length:=(List.getElem?_eq_some_iff.1 hu).1
        rw[<-Go.Deep.add_add,h6 j (by omega),hu]
       refine⟨some a,len,cap,h1,hl,hm,fun h0=>⟨a,rfl,fun hp=>?_,hes⟩⟩
       obtain⟨es,h5,h6,_⟩:=hes 0 h0
       have:=cell_lt (h6 0 _ (List.getElem?_eq_getElem (by omega)))
       rwa [Qsb] at this
   · rename_i fs hu
     obtain⟨xs,n',hn,_,hl,hlen,hf⟩:=DataW.trod_struct hu h
     obtain rfl:n=n':=by omega
     refine⟨hl,fun f hmem=>?_⟩
     obtain⟨i,hi⟩:=List.getElem?_of_mem hmem
     have hi':fs[i]?=some f:=by simpa using hi
     have hlt:i<fs.size:=(Array.getElem?_eq_some_iff.1 hi').1
     have:=hf i f hi'
     rw[List.getElem?_eq_getElem (by omega)] at this
     exact Qhf n _ _ _ this
   · trivial
end
theorem Qtt.size{P:Program}{W:World}{ts:List TypeId}{args:Array Value}(h:Qtt P W ts args):args.size=ts.length:=by
 obtain⟨H,enc,base,ds,ps,_,h⟩:=h
 have:∀(ts:List TypeId) (vs:List Value) (ds:List (DataW H)) (ps:List MemPlace),DataW.TrodAll enc P W 0 (fun _=>true) true ts vs ds ps->vs.length=ts.length:=by
  intro ts
  induction ts with
  | nil=>intro vs ds ps h;obtain⟨rfl,rfl,rfl⟩:=trodAll_nil h;rfl
  | cons t ts ih=>intro vs ds ps h;obtain⟨v,vs',d,ds',p,q,rfl,rfl,rfl,h0,h1⟩:=trodAll_cons h;simp[ih _ _ _ h1]
 simpa using this _ _ _ _ h
theorem Qtt.arg{P:Program}{W:World}{ts:List TypeId}{args:Array Value}(h:Qtt P W ts args)(j:Nat)(t:TypeId)(v:Value)(ht:ts[j]?=some t)(hv:args[j]?=some v) :
 ∃ base n,Value.okWide P W .any base t v/\Qlv P W n t v.cells.toList:=by
 obtain⟨H,enc,base,ds,ps,h1,h2⟩:=h
 have:∀(ts:List TypeId) (vs:List Value) (ds:List (DataW H)) (ps:List MemPlace),DataW.TrodAll enc P W 0 (fun _=>true) true ts vs ds ps->∀(j:Nat) (t:TypeId) (v:Value),ts[j]?=some t->vs[j]?=some v->∃ n,Qlv P W n t v.cells.toList:=by
  intro ts
  induction ts with
  | nil=>intro vs ds ps h j t v ht;simp at ht
  | cons t ts ih=>
    intro vs ds ps h j t' v' ht hv
    obtain⟨v,vs',d,ds',p,q,rfl,rfl,rfl,⟨n,h0⟩,h1⟩:=trodAll_cons h
    cases j with
    | zero => obtain rfl : t = t' := by simpa using ht
              obtain rfl:v=v':=by simpa using hv
              exact⟨n,Qhf n _ _ _ h0⟩
    | succ j=>exact ih _ _ _ h1 j t' v' (by simpa using ht) (by simpa using hv)
 obtain⟨n,hn⟩:=this _ _ _ _ h2 j t v ht (by simpa using hv)
 exact⟨base,n,h1 j t v ht hv,hn⟩
end Go.Proofs.YtbnkjgcpjeedfaaGreat
namespace Go.Proofs.YtbnkjgcpjeedfaaGreat
set_option linter.unusedSimpArgs false
open Go.RowKit Go.Deep
set_option linter.unusedVariables false
theorem Qhw(b off j:Nat):(⟨b,off,none⟩:Addr).add j=⟨b,off+j,none⟩:=by
 unfold Addr.add
 by_cases h:j=0 <;> simp[h]
def Qbb (w:World) (B size:Nat) (A:Option Addr) (n:Nat) (cells:List Value):Prop:=
 cells.length=n*size/\(0<n->∃ b off,A=some ⟨b,off,none⟩/\b<B/\∀ j u,cells[j]?=some u->w.cell? ⟨b,off+j,none⟩=some u)
section
variable {w w' : World} {B B' size n : Nat} {A : Option Addr} {xs : List Value}
theorem Qbb.nil_:Qbb w B size A 0 []:=⟨by simp,fun h=>absurd h (by omega)⟩
theorem Qbb.keep(h:Qbb w B size A n xs)(hk:∀ p:Addr,p.block<B->w'.cell? p=w.cell? p):Qbb w' B size A n xs:=
 ⟨h.1,fun hn=>by
  obtain⟨b,off,e,hb,hc⟩:=h.2 hn
  exact⟨b,off,e,hb,fun j u hu=>(hk _ hb).trans (hc j u hu)⟩⟩
theorem Qbb.more(h:Qbb w B size A n xs)(hB:B<=B'):Qbb w B' size A n xs:=
 ⟨h.1,fun hn=>by
  obtain⟨b,off,e,hb,hc⟩:=h.2 hn
  exact⟨b,off,e,by omega,hc⟩⟩
theorem Qbb.below(h:Qbb w B size A n xs)(hb:Below B w w'):Qbb w' B size A n xs:=h.keep fun _ hp=>hb.cell hp
theorem Qbb.ext(h:Qbb w w.heap.size size A n xs)(he:Ext w w'):Qbb w' w'.heap.size size A n xs:=(h.below he).more he.size
theorem Qbb.drewN(h:Qbb w B size A n xs)(k:Nat):Qbb (w.drewN k) B size A n xs:=h
theorem Qbb.alloc(h:Qbb w B size A n xs)(hB:B<=w.heap.size)(o:Obj):Qbb (w.alloc o) B size A n xs:=h.keep fun p hp=>World.cell?_alloc_lt w o p (by omega)
theorem Qbb.setCell(h:Qbb w B size A n xs){p:Addr}(hB:B<=p.block)(u:Value):Qbb (w.setCell p u) B size A n xs:=
 h.keep fun q hq=>World.cell?_setCell_other w p q u (fun e=>by subst e;omega)
theorem Qbb.at_(h:Qbb w B size A n xs){k:Nat}(hk:k<n):∃ b off,A=some ⟨b,off,none⟩/\b<B/\∀ j u,xs[k*size+j]?=some u->w.cell? ⟨b,off+k*size+j,none⟩=some u:=by
 obtain⟨b,off,e,hb,hc⟩:=h.2 (by omega)
 exact⟨b,off,e,hb,fun j u hu=>by rw[Nat.add_assoc];exact hc _ u hu⟩
end
theorem Qa9{α:Type}(f:α->List Value)(size:Nat)(hf:∀ a,(f a).length=size):∀(l:List α) (k j:Nat) (a:α),l[k]?=some a->j<size->(l.flatMap f)[k*size+j]?=(f a)[j]?
 | [],k,j,a,h,_=>by simp at h
 | b :: l,0,j,a,h,hj=>by
   obtain rfl:b=a:=by simpa using h
   simp only[Nat.zero_mul,Nat.zero_add,List.flatMap_cons]
   rw[List.getElem?_append_left (by rw[hf];exact hj)]
 | b :: l,k+1,j,a,h,hj=>by
   have h':l[k]?=some a:=by simpa using h
   rw[List.flatMap_cons,List.getElem?_append_right (by rw[hf,Nat.succ_mul];omega),hf]
   rw[show(k+1)*size+j-size=k*size+j by rw[Nat.succ_mul];omega]
   exact Qa9 f size hf l k j a h' hj
theorem Qes{α:Type}(f:α->List Value)(size:Nat)(hf:∀ a,(f a).length=size):∀(l:List α),(l.flatMap f).length=l.length*size
 | []=>by simp
 | b :: l=>by rw[List.flatMap_cons,List.length_append,hf,Qes f size hf l,List.length_cons,Nat.succ_mul];omega
def Qav {α:Type} (w:World) (B:Nat) (f:α->List Value) (size:Nat) (A:Option Addr) (l:List α):Prop:=Qbb w B size A l.length (l.flatMap f)
section
variable {P : Program} {w : World} {n : Nat} {t : TypeId} {cs : List Value}
theorem Qwg{k:IntKind}(hu:P.underlying t=some (.int k))(h:Qlv P w n t cs):∃ m,cs=[.int k m]/\(Lit.int k m).wf=true:=by
 cases n with
 | zero=>cases h
 | succ n=>unfold Qlv at h;rw[hu] at h;exact h
theorem Qn6{α:Type}(p:Nat->α->Prop):∀(n:Nat),(∀ i,i<n->∃ a,p i a)->∃ l:List α,l.length=n/\∀ i a,l[i]?=some a->p i a
 | 0,_=>⟨[],rfl,fun i a h=>by simp at h⟩
 | n+1,h=>by
   obtain⟨l,hl,hp⟩:=Qn6 p n (fun i hi=>h i (by omega))
   obtain⟨a,ha⟩:=h n (by omega)
   refine⟨l++[a],by simp[hl],fun i b hb=>?_⟩
   rcases Nat.lt_or_ge i n with hlt|hge
   · exact hp i b (by rw[<-hb,List.getElem?_append_left (by omega)])
   · have:i=n:=by
      have:=(List.getElem?_eq_some_iff.1 hb).1
      simp at this;omega
     subst this
     rw[List.getElem?_append_right (by omega),hl] at hb
     simp at hb
     subst hb
     exact ha
theorem Qso{α:Type}{e:TypeId}(f:α->List Value)(p:α->Prop)(size:Nat)(hu:P.underlying t=some (.slice e))(hsz:P.cellsOf e=size)(hpos:0<size)(hf:∀ a,(f a).length=size)
 (hel:∀ m es,Qlv P w m e es->∃ a,es=f a/\p a) (h:Qlv P w n t cs) :
 ∃ A c,∃ l:List α,cs=[.slice A l.length c]/\l.length<=c/\c<=maxLen/\Qav w w.heap.size f size A l/\∀ a∈l,p a:=by
 cases n with
 | zero=>cases h
 | succ n=>
   unfold Qlv at h
   rw[hu] at h
   obtain⟨A,len,c,rfl,h1,h2,h3⟩:=h
   rcases Nat.eq_zero_or_pos len with h0|h0
   · subst h0
     exact⟨A,c,[],rfl,h1,h2,⟨by simp,fun h=>absurd h (by simp)⟩,by simp⟩
   · obtain⟨ad,rfl,hb,hes⟩:=h3 h0
     obtain⟨b,off,spot⟩:=ad
     have hb:=hb (by omega)
     have hall:∀ i,i<len->∃ a:α,p a/\∀ j u,(f a)[j]?=some u->w.cell? ((⟨b,off,spot⟩:Addr).add (i*size+j))=some u:=by
      intro i hi
      obtain⟨es,_,hc,ht⟩:=hes i hi
      obtain⟨a,rfl,hp⟩:=hel _ _ ht
      exact⟨a,hp,by rw[hsz] at hc;exact hc⟩
     obtain⟨l,hl,hp⟩:=Qn6 _ len hall
     subst hl
     have hspot:spot=none:=by
      have ha:l[0]?=some (l[0]'h0):=List.getElem?_eq_getElem h0
      obtain⟨_,hc⟩:=hp 0 _ ha
      have hl0:0<(f (l[0]'h0)).length:=by rw[hf];exact hpos
      have:=hc 0 _ (List.getElem?_eq_getElem hl0)
      simpa [Addr.add] using World.cell?_spot this
     subst hspot
     refine⟨_,c,l,rfl,h1,h2,⟨Qes f size hf l,fun _=>⟨b,off,rfl,hb,fun j u hj=>?_⟩⟩,fun a ha=>?_⟩
     · have hjl:j<l.length*size:=by
        have:=(List.getElem?_eq_some_iff.1 hj).1
        rwa [Qes f size hf] at this
       have hk:j / size<l.length:=Nat.div_lt_of_lt_mul (by rw[Nat.mul_comm];exact hjl)
       have hm:j % size<size:=Nat.mod_lt _ hpos
       have e1:j / size*size+j % size=j:=by rw[Nat.mul_comm];exact Nat.div_add_mod _ _
       have ha:=List.getElem?_eq_getElem hk
       rw[<-e1,Qa9 f size hf l _ _ _ ha hm] at hj
       have:=(hp _ _ ha).2 _ u hj
       rw[Qhw,e1] at this
       exact this
     · obtain⟨i,hi⟩:=List.getElem?_of_mem ha
       exact(hp i a hi).1
end
theorem Blk.setCells{g:Nat}{t:TypeId}:∀(vs:List Value) (o:Nat) (cs:Array Value) (w:World),Blk w g t cs->o+vs.length<=cs.size->Blk (w.setCells g o vs) g t (cs.toList.take o++vs++cs.toList.drop (o+vs.length)).toArray
 | [],o,cs,w,h,hs=>by simpa [World.setCells] using h
 | v :: vs,o,cs,w,h,hs=>by
   simp only[List.length_cons] at hs
   have h1:=Blk.setCells vs (o+1) _ _ (h.set_ o v) (by simp;omega)
   have hl:o<(cs.toList.set o v).length:=by simp;omega
   have a:(cs.toList.set o v).take (o+1)=cs.toList.take o++[v]:=by
    rw[List.take_succ_eq_append_getElem hl,List.take_set_of_le (Nat.le_refl _),List.getElem_set_self]
   have b:(cs.toList.set o v).drop (o+1+vs.length)=cs.toList.drop (o+1+vs.length):=List.drop_set_of_lt (by omega)
   rw[Array.toList_setIfInBounds,a,b] at h1
   rw[show o+(v :: vs).length=o+1+vs.length by simp;omega,show cs.toList.take o++v :: vs=cs.toList.take o++[v]++vs by simp]
   exact h1
theorem Blk.put{w:World}{g:Nat}{t:TypeId}{cs:Array Value}(h:Blk w g t cs)(o:Nat)(vs:List Value)(cs':Array Value)(ho:o+vs.length<=cs.size)(he:cs'=(cs.toList.take o++vs++cs.toList.drop (o+vs.length)).toArray):Blk (w.setCells g o vs) g t cs':=by
 rw[he];exact Blk.setCells vs o cs w h ho
theorem Blk.farCells{g g':Nat}{t:TypeId}{cs:Array Value}(hne:g≠g'):∀(vs:List Value) (o:Nat) (w:World),Blk w g t cs->Blk (w.setCells g' o vs) g t cs
 | [],_,_,h=>h
 | v :: vs,o,w,h=>Blk.farCells hne vs (o+1) _ (h.far (p:=⟨g',o,none⟩) hne v)
theorem Qaa{W:World}{g:Nat}(hg:W.heap.size<=g):∀(vs:List Value) (o:Nat) (w:World),Ext W w->Ext W (w.setCells g o vs)
 | [],_,_,h=>h
 | v :: vs,o,w,h=>Qaa hg vs (o+1) _ (Below.setCell h (p:=⟨g,o,none⟩) hg v)
theorem Blk.there{w:World}{g:Nat}{t:TypeId}{cs:Array Value}(h:Blk w g t cs)(o n:Nat)(hn:o+n<=cs.size):w.there g o n:=fun j hj=>by
 rw[h.cell,h.frozen]
 exact⟨by rw[Array.getElem?_eq_getElem (by omega)];rfl,rfl⟩
theorem Blk.ownsRow{w:World}{g:Nat}{t:TypeId}{xs:List Value}(h:Blk w g t xs.toArray)(n size base:Nat)(hb:base<=g)(hl:xs.length=n*size)(hm:n<=maxLen):w.ownsRow base t size (.slice (some ⟨g,0,none⟩) n n) n xs:=
 ⟨hl,.inr ⟨g,n,xs.toArray,rfl,hb,h,Nat.le_refl _,hm,by simp[hl],by simp[<-hl]⟩⟩
theorem Blk.reads{w:World}{g:Nat}{t:TypeId}{xs:List Value}(h:Blk w g t xs.toArray)(n size:Nat)(hl:xs.length=n*size):Qbb w w.heap.size size (some ⟨g,0,none⟩) n xs:=
 ⟨hl,fun _=>⟨g,0,rfl,h.lt,fun j u hu=>by rw[h.cell];simpa using hu⟩⟩
theorem Qbb.of_own{w:World}{A:Option Addr}{n base size:Nat}{e:TypeId}{c:Nat}{xs:List Value}(h:w.ownsRow base e size (.slice A n c) n xs):Qbb w w.heap.size size A n xs:=by
 refine⟨h.1,fun hn=>?_⟩
 rcases h.2 with⟨h1,h2⟩|⟨g,cap,cur,hv,hg,hh,hnc,hm,hs,ht⟩
 · omega
 · obtain⟨rfl,_⟩:A=some ⟨g,0,none⟩/\c=cap:=by simpa using hv
   refine⟨g,0,rfl,Blk.lt (t:=e) (cs:=cur) hh,fun j u hu=>?_⟩
   rw[cell_of_row w g _ cur e (0,0) hh,Nat.zero_add]
   have hj:j<n*size:=by have:=(List.getElem?_eq_some_iff.1 hu).1;rw[h.1] at this;exact this
   rw[<-ht,List.getElem?_take_of_lt hj] at hu
   simpa using hu
theorem Qdc{P:Program}{fn:Func}{R:Ending->World->Prop}{a:Act}{w:World}{p:Tmp}{ty g t:Nat}{cs:Array Value}{d:TypeDesc}(h:fn.results=#[.cell p ty])
 (hp:a.tmps.getD p undef=.pointer (some ⟨g,0,none⟩)) (hB:Blk w g t cs) (hu:P.underlying ty=some d) (hd:(match d with|.struct _|.array _ _=>true|_=>false)=true) (hi:(P.info? ty).map (·.size)=some cs.size)
 (hdef:a.defers=[]) (hR:R (.returned (.agg cs)) w):bodyPost P fn R .ret a w:=
 bodyPost_ret (results_cell_row h a.tmps w g t cs (0,0) d hp hB hu hd hi) hdef hR
theorem Qat{P:Program}{fn:Func}{R:Ending->World->Prop}{a:Act}{w:World}{p u:Tmp}{ty g t:Nat}{cs:Array Value}{d:TypeDesc}(h:fn.results=#[.cell p ty,.tmp u])
 (hp:a.tmps.getD p undef=.pointer (some ⟨g,0,none⟩)) (hB:Blk w g t cs) (hu:P.underlying ty=some d) (hd:(match d with|.struct _|.array _ _=>true|_=>false)=true) (hi:(P.info? ty).map (·.size)=some cs.size)
 (hdef:a.defers=[]) (hR:R (.returned (.tuple #[.agg cs,a.tmps.getD u undef])) w):bodyPost P fn R .ret a w:=by
 refine bodyPost_ret (v:=.tuple #[.agg cs,a.tmps.getD u undef]) ?_ hdef hR
 rw[results_cell_tmp h,hp]
 simp only[asAddr,Sem.run_pure,Result.andThen_ok,run_loadVar_row w g t ty cs (0,0) d hB hu hd hi]
section
variable {α : Type} {f : α → List Value} {size : Nat} {t : TypeId} {l : List α} {g : Nat} {Z : Array Value} {k : Nat} {wr w1 : World}
end
theorem Qez{k:IntKind}{a b:Int}(h:a=b):Ending.returned (.int k a)=.returned (.int k b):=by rw[h]
theorem Qav.ext{α:Type}{w w':World}{size:Nat}{f:α->List Value}{A:Option Addr}{l:List α}(h:Qav w w.heap.size f size A l)(he:Ext w w'):Qav w' w'.heap.size f size A l:=Qbb.ext h he
theorem Blk.readsL{α:Type}{w:World}{g:Nat}{t:TypeId}{size:Nat}{f:α->List Value}{l:List α}(hf:∀ a,(f a).length=size)(h:Blk w g t (l.flatMap f).toArray):Qav w w.heap.size f size (some ⟨g,0,none⟩) l:=
 Blk.reads h l.length size (Qes f size hf l)
end Go.Proofs.YtbnkjgcpjeedfaaGreat

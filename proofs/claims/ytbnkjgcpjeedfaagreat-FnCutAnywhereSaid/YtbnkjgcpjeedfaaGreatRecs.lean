/-
  BrAns4; RightW; Recs: No condition.
-/
import Derived.Test.YtbnkjgcpjeedfaaGreatRightP
import Derived.Test.YtbnkjgcpjeedfaaGreatRets
import Derived.Test.YtbnkjgcpjeedfaaGreatTextsB
import Derived.Test.YtbnkjgcpjeedfaaGreatNodeW
import Derived.Test.YtbnkjgcpjeedfaaGreatReopen0
import Derived.WideKeyEntry
namespace Go.Proofs.YtbnkjgcpjeedfaaGreat
set_option linter.unusedSimpArgs false
open Go.RowKit
set_option linter.unusedVariables false
def Qym (B:Qad) (W:List Qbs) (l c:Nat) (w:World) (e:Ending) (w':World):Prop:=
 ∃ ve vr vh v1 v2 vw,e=.returned (.tuple #[.agg (Qe8 B ve vr vh v1 v2).toArray,vw,.int .i64 (l:Int),.int .i64 (c:Int)])/\Qb9 w.heap.size w' B ve vr vh v1 v2/\(∀ x,v1.ownBlock=some x->v2.ownBlock≠some x)/\w'.ownsRow w.heap.size 50 3 vw W.length (W.flatMap Qbs.cells)/\Ext w w'
def Qca (b:Qad) (d:Qaf):Nat:=if Qar b then Qcu b.log.entries d else 1
def pbB (b:Qad) (d:Qaf):Qad:=if Qca b d=0 then pbB0 b d else noB
def pbW (b:Qad) (d:Qaf):List Qbs:=if Qca b d=0 then[Qcs b 0 (Qa3 (Qfw b d))] else[]
def pbL (b:Qad) (d:Qaf):Nat:=if Qca b d=0 then b.log.entries.length else 0
theorem Qxj{b:Qad}{d:Qaf}{k:Nat}(h:Qca b d=k)(h0:k≠0):pbB b d=noB/\pbW b d=[]/\pbL b d=0:=by
 have:¬ Qca b d=0:=by omega
 exact⟨by rw[pbB,if_neg this],by rw[pbW,if_neg this],by rw[pbL,if_neg this]⟩
theorem Qhh{b:Qad}{d:Qaf}(h:Qca b d=0):pbB b d=pbB0 b d/\pbW b d=[Qcs b 0 (Qa3 (Qfw b d))]/\pbL b d=b.log.entries.length:=⟨by rw[pbB,if_pos h],by rw[pbW,if_pos h],by rw[pbL,if_pos h]⟩
theorem Qxi{b:Qad}{d:Qaf}{k:Nat}{w w':World}{e:Ending}{vw:Value}(h:Qca b d=k)(h0:k≠0)(he:e=.returned (.tuple #[.agg #[.int .i64 0,.slice none 0 0,.slice none 0 0,.slice none 0 0,.int .i64 0,.slice none 0 0,.int .i64 0,.slice none 0 0,.int .i64 0,.int .i64 0,.string ⟨#[]⟩,.int .i64 0,.string ⟨#[]⟩],vw,.int .i64 0,.int .i64 (k:Int)]))(ho:w'.ownsRow w.heap.size 50 3 vw 0 [])(hx:Ext w w'):Qym (pbB b d) (pbW b d) (pbL b d) (Qca b d) w e w':=by
 rw[(Qxj h h0).1,(Qxj h h0).2.1,(Qxj h h0).2.2,h]
 exact⟨_,_,_,_,_,vw,he,Qb9.zero _ _,(fun x h=>by cases h),ho,hx⟩
theorem BVal.but{K g:Nat}{B:Qad}{L:List Value}{w w':World}(h:BVal K B L w)(k:Qaz g w w')(hg:g<K):BVal K B L w':=by
 obtain⟨X0,x0,X1,x1,X2,x2,X3,x3,X4,x4,h1,h2,h3⟩:=h
 exact⟨X0,x0,X1,x1,X2,x2,X3,x3,X4,x4,h1,⟨Qd7 h2.e k hg,Qd7 h2.r k hg,Qd7 h2.h k hg,Qd7 h2.p k hg,Qd7 h2.q k hg⟩,h3⟩
theorem BVal.low{K K':Nat}{B:Qad}{L:List Value}{w:World}(h:BVal K B L w)(hK:K'<=K):BVal K' B L w:=by
 obtain⟨X0,x0,X1,x1,X2,x2,X3,x3,X4,x4,h1,h2,h3⟩:=h
 exact⟨X0,x0,X1,x1,X2,x2,X3,x3,X4,x4,h1,⟨Qaj h2.e hK,Qaj h2.r hK,Qaj h2.h hK,Qaj h2.p hK,Qaj h2.q hK⟩,h3⟩
theorem BVal.putB{K G:Nat}{B:Qad}{L:List Value}{w:World}{cs:Array Value}(h:BVal K B L w)(hb:Blk w G 37 cs)(vs:List Value)(o:Nat):BVal K B L (w.setCells G o vs):=by
 obtain⟨X0,x0,X1,x1,X2,x2,X3,x3,X4,x4,h1,h2,h3⟩:=h
 have f:∀ {e s n:Nat} {v:Value} {xs:List Value},37≠e->w.ownsRow K e s v n xs->(w.setCells G o vs).ownsRow K e s v n xs:=fun he h=>(Frm.setCells (Frm.refl (fun b=>b=G) w) (g:=G) (fun _=>rfl) vs o).own h (fun y hy=>Qew h hb he y hy)
 exact⟨X0,x0,X1,x1,X2,x2,X3,x3,X4,x4,h1,⟨f (by decide) h2.e,f (by decide) h2.r,f (by decide) h2.h,f (by decide) h2.p,f (by decide) h2.q⟩,h3⟩
theorem Ql2{k:Int}(h0:0<=k)(h1:k<=1000000000):(Lit.int .i64 k).wf=true:=by
 simp[Lit.wf,IntKind.min,IntKind.max,IntKind.signed,IntKind.bits];omega
theorem Qth{e:Qaf}(h:Qbk e=true):e.Ok:=by
 have:=Qd0 h
 exact⟨by unfold maxLen;omega,Ql2 this.2.1 (by omega),Ql2 this.2.2.2.1 (by omega),by unfold maxLen;omega,by unfold maxLen;omega⟩
theorem Qp7{r:Qab}(h:Qau r=true):r.Ok:=by
 simp only[Qau,Bool.and_eq_true] at h
 have s1:=Qb7 h.1.1
 have s2:=Qb7 h.1.2
 have s3:=Qa0 h.2
 exact⟨by unfold maxLen;omega,by unfold maxLen;omega,Ql2 s3.1 (by omega)⟩
theorem Qfb{b:Qad}(hB:Qar b=true):TxOk b:=by
 obtain⟨hw,h0,hE,h1,hR,p0,h2,hH⟩:=Qbh hB
 obtain⟨n1,n2,sf⟩:=Qir hB
 have e1:=Qh9 (((slL b).take n1).length);have e2:=Qh9 (((slT b).take n2).length)
 have q1:=sf.e;have q2:=sf.r
 refine⟨fun e he=>Qth (hE e he),fun r hr=>Qp7 (hR r hr),p0,⟨by omega,by omega,by omega,?_,?_⟩⟩
 · rw[sf.z]
   show(Qbt (ndB b.width) ((slL b).take n1)).reverse.length<=1048576
   rw[List.length_reverse,Qeq]
   rw[List.length_take] at e1 ⊢;omega
 · rw[sf.z]
   show(Qbt (ndB b.width) ((slT b).take n2)).reverse.length<=1048576
   rw[List.length_reverse,Qeq]
   rw[List.length_take] at e2 ⊢;omega
theorem Qwb{K:Nat}{B:Qad}{ve vr vh v1 v2:Value}{w:World}(h:Qb9 K w B ve vr vh v1 v2)(ha:∀ x,v1.ownBlock=some x->v2.ownBlock≠some x):BVal K B (Qe8 B ve vr vh v1 v2) w:=by
 obtain⟨X0,x0,rfl,_⟩:=Qae h.e
 obtain⟨X1,x1,rfl,_⟩:=Qae h.r
 obtain⟨X2,x2,rfl,_⟩:=Qae h.h
 obtain⟨X3,x3,rfl,_⟩:=Qae h.p
 obtain⟨X4,x4,rfl,_⟩:=Qae h.q
 exact⟨X0,x0,X1,x1,X2,x2,X3,x3,X4,x4,rfl,h,ha⟩
theorem Qu0{b:Qad}{d:Qaf}(hB:Qar b=true)(h:Qca b d=0):Qar (pbB b d)=true:=by
 rw[Qca,hB,if_pos rfl] at h
 have h2:Qca b d=0:=by rw[Qca,hB,if_pos rfl];exact h
 rw[(Qhh h2).1];exact Qri hB h
theorem newV{n:Int}{q K:Nat}{w:World}(hq:K<=q)(kq:Blk w q 33 (newH true n).cells.toArray):BVal K (Qs6 n) (brkV (Qs6 n) none 0 none 0 (some ⟨q,0,none⟩) 1 none 0 none 0) w:=by
 refine⟨none,0,none,0,some ⟨q,0,none⟩,1,none,0,none,0,rfl,⟨World.ownsRow_nil _ _ _ _,World.ownsRow_nil _ _ _ _,?_,World.ownsRow_nil _ _ _ _,World.ownsRow_nil _ _ _ _⟩,fun x h=>by cases h⟩
 have:=Blk.ownsRow (xs:=(newH true n).cells) kq 1 5 K hq rfl (by unfold maxLen;omega)
 simpa [Qs6] using this
end Go.Proofs.YtbnkjgcpjeedfaaGreat
namespace Go.Proofs.YtbnkjgcpjeedfaaGreat
set_option maxHeartbeats 2000000
set_option maxRecDepth 100000
set_option linter.unusedSimpArgs false
open Go.RowKit Go.WideMaps Go.Maps
set_option linter.unusedVariables false
theorem recAt_eq{l:List Qab}{k:Nat}{d:Qab}(hd:l[k]?=some d):Qp9 l k=(Qau d&&!((l.take k).any fun x=>x.eqb d)):=by
 rw[Qp9,hd]
 simp only
 congr 1
 cases h:(l.take k).any fun x=>x.eqb d
 · have hn:∀ y∈l.take k,(fun x:Qab=>x.eqb d) y=false:=by
    intro y hy
    have:=List.any_eq_false.1 h y hy
    simpa using this
   rw[Qhn (p:=fun x:Qab=>x.eqb d) hd (Qab.eqb_self d) hn];simp
 · obtain⟨x,hx,hp⟩:=List.any_eq_true.1 h
   simp only[Bool.not_true,beq_eq_false_iff_ne,ne_eq]
   intro e
   obtain⟨_,_,_,h3⟩:=Qkq e
   have:=h3 x hx
   rw[hp] at this;cases this
def Qst (l:List Qab) (t:Qab):Option Nat:=if l.any (fun x=>x.eqb t) then some 1 else none
theorem Qwr:Qst []=fun _=>none:=rfl
theorem Qmx(l:List Qab)(t:Qab):(Qst l t).getD 0=if l.any (fun x=>x.eqb t) then 1 else 0:=by
 unfold Qst;split <;> rfl
theorem Quw{l:List Qab}{k:Nat}{d:Qab}(hd:l[k]?=some d):rput (Qst (l.take k)) d 1=Qst (l.take (k+1)):=by
 obtain⟨hk,rfl⟩:=List.getElem?_eq_some_iff.1 hd
 funext t
 unfold rput Qst
 rw[List.take_succ_eq_append_getElem hk,List.any_append]
 simp only[List.any_cons,List.any_nil,Bool.or_false]
 cases e:t.eqb l[k]
 · have:l[k].eqb t=false:=by
    cases e2:l[k].eqb t
    · rfl
    · rw[(Qab.eqb_iff _ _).1 e2,Qab.eqb_self] at e;cases e
   rw[this];simp
 · have:l[k].eqb t=true:=by rw[(Qab.eqb_iff _ _).1 e,Qab.eqb_self]
   rw[this];simp
theorem Qpb:KeyLaw Tryz.prog 42:=deep_law_laid (by kernel_rfl) (m:=2) (by omega) (of_decide_eq_true (by kernel_rfl)) (by kernel_rfl) (by rw[Tryz.underlying42])
theorem Qxy(w:World):(zeroValue 3).run Tryz.prog w=.ok (.int .i64 0) w:=by kernel_rfl
theorem Qdm.entry{w:World}{B n q:Nat}{f:Qab->Option Nat}(h:Qdm w B n f)(s:Qab)(hs:s.Ok)(hn:n<maxLen)(hq:q<=1099511627776) :
 ∃ v0 st w1,(Instr.mapEntry 170 (.map (some B)) (.agg #[.string s.reader,.string s.topic,.int .i64 s.index])).run Tryz.prog w=.ok (.tuple #[v0,.int .i64 st]) w1/\
  ∃ w2,(Instr.entryStore 170 (.map (some B)) (.int .i64 st) (.int .i64 (q:Int))).run Tryz.prog w1=.ok () w2/\Qdm w2 B (n+1) (rput f s q)/\w.grownBy w2 (some B):=by
 obtain⟨D,h,k⟩:=h
 have wf:(Lit.int .i64 (q:Int)).wf=true:=WalkArith.wf_i64 (by omega)
 obtain⟨w',hrun,r1,r2⟩:=h.update Qkd Tryz.underlying170 hn (Qh4 s hs) (plainElem_int Tryz.underlying3 wf)
 have h0:=h
 obtain⟨es,clock,hb,F,_,_⟩:=h0
 obtain⟨v0,st,es1,clock1,e1,_,e2⟩:=WideElems.entry_then_store Qpb Tryz.underlying170 (z:=.int .i64 0) Qxy hb F (Qh4 s hs)
 obtain⟨es',clock',e3,e4⟩:=e2 (ChangeMaps.setBlock w B (.map es1 clock1)) (.int .i64 (q:Int)) (ChangeMaps.heap_setBlock_same hb _)
 rw[hrun] at e4
 have e5:w'=ChangeMaps.setBlock w B (.map es' clock'):=by cases e4;rfl
 refine⟨v0,(st:Int),_,e1,w',?_,Qdm.put hs k h.isMap r1,r2⟩
 have e6:ChangeMaps.setBlock (ChangeMaps.setBlock w B (.map es1 clock1)) B (.map es' clock')=ChangeMaps.setBlock w B (.map es' clock'):=by
  simp[ChangeMaps.setBlock]
 rw[e6,<-e5] at e3
 exact e3
theorem Qdm.entry1{w w1:World}{B n:Nat}{f:Qab->Option Nat}{v:Value}(h:Qdm w B n f)(s:Qab)(hs:s.Ok)(hn:n<maxLen)(hf:(f s).getD 0=0)
 (hrun:(Instr.mapEntry 170 (.map (some B)) (.agg #[.string s.reader,.string s.topic,.int .i64 s.index])).run Tryz.prog w=.ok v w1) :
 (Instr.lookup 170 (.map (some B)) (.agg #[.string s.reader,.string s.topic,.int .i64 s.index]) false).run Tryz.prog w1=.ok (.int .i64 0) w1:=by
 have hh:=h
 obtain⟨D,h,k⟩:=h
 obtain⟨w',hup,r1,r2⟩:=h.update Qkd Tryz.underlying170 hn (Qh4 s hs) (plainElem_int Tryz.underlying3 (a:=0) (by decide))
 have hM:=h.isMap
 have h0:=h
 obtain⟨es,clock,hb,F,_,_⟩:=h0
 have hkey:=Qh4 s hs
 rcases Qpb.find w hkey es.toList F.keys with⟨h1,h2⟩|⟨j,e0,h1,h2,h3⟩
 · have e1:(Instr.mapEntry 170 (.map (some B)) (rval s)).run Tryz.prog w=.ok (.tuple #[.int .i64 0,goInt clock]) (ChangeMaps.setBlock w B (.map (es.push ⟨rval s,.int .i64 0,clock⟩) (clock+1))):=by
    simp[Instr.mapEntry,run_underlying Tryz.underlying170,MapKept.run_getObj_map hb,Qpb.check w false hkey,h1,Qxy,MapKept.run_setObj_map _ hb,Result.andThen,ChangeMaps.setBlock]
   have e2:(Instr.mapUpdate 170 (.map (some B)) (rval s) (.int .i64 0)).run Tryz.prog w=.ok () (ChangeMaps.setBlock w B (.map (es.push ⟨rval s,.int .i64 0,clock⟩) (clock+1))):=by
    simp[Instr.mapUpdate,run_underlying Tryz.underlying170,MapKept.run_getObj_map hb,Qpb.check w false hkey,h1,MapKept.run_setObj_map _ hb,Result.andThen,ChangeMaps.setBlock]
   have a1:w1=ChangeMaps.setBlock w B (.map (es.push ⟨rval s,.int .i64 0,clock⟩) (clock+1)):=by
    rw[show(.agg #[.string s.reader,.string s.topic,.int .i64 s.index]:Value)=rval s from rfl,e1] at hrun
    cases hrun;rfl
   have a2:w'=w1:=by rw[e2] at hup;rw[a1];cases hup;rfl
   subst a2
   have M:=Qdm.put (m:=0) hs k hM r1
   have:=M.look1 s hs
   simpa [rput,Qab.eqb_self] using this
 · have hj:es[j]?=some e0:=by simpa using h2
   have e1:(Instr.mapEntry 170 (.map (some B)) (rval s)).run Tryz.prog w=.ok (.tuple #[e0.val,goInt e0.born]) w:=by
    have hsame:es.modify j (fun e=>{ e with key:=rval s })=es:=by
     apply Array.ext'
     rw[Array.toList_modify,ChangeMaps.modify_eq_set _ _ _ _ h2]
     have:({ e0 with key:=rval s }:MapEntry)=e0:=by rw[<-h3]
     rw[this]
     exact WideElems.set_self _ _ _ h2
    have hself:({ w with heap:=w.heap.setIfInBounds B (.map es clock) }:World)=w:=by
     have:w.heap.setIfInBounds B (.map es clock)=w.heap:=by
      apply Array.ext_getElem?
      intro i
      rw[Array.getElem?_setIfInBounds]
      split
      · rename_i e;subst e;split
        · exact hb.symm
        · rename_i hlt;rw[Array.getElem?_eq_none (by omega)]
      · rfl
     rw[this]
    simp[Instr.mapEntry,run_underlying Tryz.underlying170,MapKept.run_getObj_map hb,Qpb.check w false hkey,h1,hj,h3,Qpb.stays w hkey,hsame,MapKept.run_setObj_map _ hb,Result.andThen,hself]
   have a1:w1=w:=by
    rw[show(.agg #[.string s.reader,.string s.topic,.int .i64 s.index]:Value)=rval s from rfl,e1] at hrun
    cases hrun;rfl
   subst a1
   have:=hh.look1 s hs
   rw[hf] at this
   exact this
theorem twoH{P:Program}{md:Region.Mode}{ops:Array Oper}{Q:Exit->Act->World->Prop}{S:World->Prop}(i j:Nat){oi oj:Oper}{fuel:Nat}{listed:Array Bool}{a:Act}{w:World}(d e:Option Tmp)(hr:Region.ready md ops listed=[i,j])
 (hi:ops[i]?=some oi) (hg:oi.guard=none) (hd:oi.dst=d) (hj:ops[j]?=some oj) (hgj:oj.guard=none) (hdj:oj.dst=e)
 (h:∀ K':Act->World->Prop,Shut (∀ a' w',(∃ v,a'=a.put d v)->S w'->(S w'->wpAnyH P md ops Q S fuel (listed.setIfInBounds i true) a' w')->K' a' w')->Qoz (if Region.wanted oi (yielded ops a.tmps)=true then Oper.wp P oi a w K' Q else K' (a.put oi.dst undef) w))
 (h':∀ K':Act->World->Prop,Shut (∀ a' w',(∃ v,a'=a.put e v)->S w'->(S w'->wpAnyH P md ops Q S fuel (listed.setIfInBounds j true) a' w')->K' a' w')->Qoz (if Region.wanted oj (yielded ops a.tmps)=true then Oper.wp P oj a w K' Q else K' (a.put oj.dst undef) w)):wpAnyH P md ops Q S (fuel+1) listed a w:=by
 refine wpAnyH_all hr (by simp) fun x hx=>?_
 rcases List.mem_cons.1 hx with rfl|hx
 · unfold wpOp
   simp only[hi]
   have hw:Region.wanted oi (yielded ops a.tmps)=true:=by simp[Region.wanted,hg]
   rw[if_pos hw]
   have h2:=h (fun a' w'=>S w'/\wpAnyH P md ops Q S fuel (listed.setIfInBounds x true) a' w') fun a' w' _ hS hW=>⟨hS,hW hS⟩
   replace h2:=h2.out
   rw[if_pos hw] at h2
   exact .inl h2
 · obtain rfl:x=j:=by simpa using hx
   unfold wpOp
   simp only[hj]
   have hw:Region.wanted oj (yielded ops a.tmps)=true:=by simp[Region.wanted,hgj]
   rw[if_pos hw]
   have h2:=h' (fun a' w'=>S w'/\wpAnyH P md ops Q S fuel (listed.setIfInBounds x true) a' w') fun a' w' _ hS hW=>⟨hS,hW hS⟩
   replace h2:=h2.out
   rw[if_pos hw] at h2
   exact .inl h2
theorem Qdm.drew{w:World}{B n:Nat}{f:Qab->Option Nat}(h:Qdm w B n f):Qdm w.drew B n f:=h
theorem Qgp(A:Option Addr)(c:Nat)(l:List Qab)(w:World)(hr:SlF AnyB Qab.cells 3 w A l c)(hok:∀ d∈l,d.Ok) :
 Calls Tryz.prog 61 #[.slice A l.length c] w fun e w'=>e=.returned (.bool (Qdx l))/\Ext w w':=by
 have HR:=hU hr
 have Hok:=hU hok
 have hlm:=hr.len
 unfold maxLen at hlm
 obtain⟨fin,hfin⟩:∃ fin,fin=Qdx l:=⟨_,rfl⟩
 rw[<-hfin]
 by_cases h5:l.length<=512
 case neg=>
  have E:=hU (show fin=false by rw[hfin,Qdx,decide_eq_false h5];rfl)
  have h6:(512:Int)<(l.length:Int):=by omega
  clear hfin
  go_enter Tryz.func61,Tryz.ntmps61
  go_wp2_with fail
  go_ret
  exact⟨Qam E.out.symm,Below.refl w.heap.size w⟩
 have F:=hU (show fin=Qed (Qp9 l) l.length by rw[hfin,Qdx,decide_eq_true h5];rfl)
 clear hfin hok hr
 have hmm:=@run_makeMap Tryz.prog
 have M0:=hU (Qdm.made w)
 go_enter Tryz.func61,Tryz.ntmps61
 go_wp2_with fail
 obtain⟨g,hg⟩:∃ g,g=w.heap.size:=⟨_,rfl⟩
 have M1:=M0.out
 rw[<-hg] at M1
 have E1:=Ext.new (Below.refl w.heap.size w) (.map #[] 0)
 have hg1:w.heap.size<=g:=by omega
 rw[<-hg]
 clear hg M0 hmm
 have M1:=hU M1;have E1:=hU E1
 go_loopw [12] (fun i wr=>∃ k:Nat,k<=l.length/\i=.int .i64 k/\Qed (Qp9 l) k=true/\Qdm wr g k (Qst (l.take k))/\Ext w wr) (fun i _=>l.length-(intOf i).toNat)
 case atStart=>exact⟨0,Nat.zero_le _,rfl,rfl,by rw[List.take_zero,Qwr];exact M1.out,E1.out⟩
 case round=>
  clear M1 E1
  obtain⟨k,hk,rfl,hi,hM,he⟩:=hrel
  have Hi:=hU hi;have KM:=hU hM
  clear hi hM
  by_cases hlt:k<l.length
  case neg=>
   have E:=hU (show fin=true by rw[F.out,show l.length=k by omega];exact Hi.out)
   go_wp2_with fail
   go_ret
   exact⟨Qam E.out.symm,he⟩
  obtain⟨b,off,rfl,hb,hc⟩:=Qbb.at_ (HR.out.ext he).reads (k:=k) hlt
  obtain⟨d,hd⟩:∃ d,d=l[k]:=⟨_,rfl⟩
  have hdl:l[k]?=some d:=by rw[hd];exact List.getElem?_eq_getElem hlt
  have hdo:=Hok.out d (List.mem_of_getElem? hdl)
  obtain⟨c0,c1,c2⟩:=Qly hc hdl
  have Hdl:=hU hdl
  have RA:=hU (recAt_eq hdl)
  have NX:=hU (Quw hdl)
  have HDO:=hU hdo
  clear hc hd hdl hdo
  go_upto_region 7 with fail
  have KE:=Blk.new wr 42 #[.string d.reader,.string d.topic,.int .i64 d.index]
  have hgw:=KM.out.lt
  have h2:=Ext.new (Below.refl wr.heap.size wr) (.cells #[.string d.reader,.string d.topic,.int .i64 d.index] 42)
  replace he:=he.next h2;replace KM:=hU (KM.out.ext h2)
  obtain⟨q,hq⟩:∃ q,q=wr.heap.size:=⟨_,rfl⟩
  rw[<-hq] at KE hgw
  rw[<-hq]
  clear hq h2 c0 c1 c2
  generalize wr.alloc (.cells #[.string d.reader,.string d.topic,.int .i64 d.index] 42)=w1 at *
  obtain⟨r0,f0⟩:=KE.rules
  cases p1:Qau d
  · have E:=hU (show fin=false by rw[F.out];exact Qd2 (k:=k) (by rw[RA.out,p1];rfl) _ hlt)
    go_wp2_with fail
    refine(Qc5 d _ HDO.out).mono ?_
    rintro e w2 ⟨rfl,h1⟩
    rw[p1]
    replace he:=he.next h1
    go_wp2_with fail
    go_ret
    exact⟨Qam E.out.symm,he⟩
  go_wp2_with fail
  refine(Qc5 d _ HDO.out).mono ?_
  rintro e w2 ⟨rfl,h1⟩
  rw[p1]
  clear r0 f0
  replace KE:=KE.ext h1
  replace he:=he.next h1;replace KM:=hU (KM.out.ext h1)
  clear h1
  obtain⟨r0,f0⟩:=KE.rules
  have LK:=KM.out.look1 d HDO.out
  rw[Qmx] at LK
  cases p2:(l.take k).any fun x=>x.eqb d
  · rw[p2] at LK
    simp only[Bool.false_eq_true,if_false] at LK
    have E:=hU (show Qed (Qp9 l) (k+1)=true from Qe9 Hi.out (by rw[RA.out,p1,p2];rfl))
    obtain⟨v0,st,w3,hme,w4,hes,hM4,hgr⟩:=KM.out.drew.entry (q:=1) d HDO.out (by unfold maxLen;omega) (by omega)
    have he4:=Ext.mapGrown (he.drew) hgr hg1
    have hes1:(Instr.entryStore 170 (.map (some g)) (.int .i64 st) (.int .i64 1)).run Tryz.prog w3=.ok () w4:=hes
    clear hes
    rw[NX.out] at hM4
    have KM4:=hU hM4
    have LK2:(Instr.lookup 170 (.map (some g)) (.agg #[.string d.reader,.string d.topic,.int .i64 d.index]) false).run Tryz.prog w2.drew=.ok (.int .i64 0) w2.drew:=by
     have:=KM.out.drew.look1 d HDO.out
     rw[Qmx,p2] at this
     simpa using this
    have KD:Hid (Blk w2.drew q 42 #[.string d.reader,.string d.topic,.int .i64 d.index]):=hU KE
    clear hM4 hgr
    go_upto_region 9 with fail
    refine wp_region_held_drew (S:=fun _=>True) (by kernel_rfl) trivial (fun hH=>?_)
    refine tk 0 (.map (some g)) (some 25) hH ?_
    try simp only[zA]
    refine oneH 1 (oi:=_) (some 26) (by kernel_rfl) rfl rfl rfl (fun K' hK=>?_)
    refine⟨?_⟩
    rw[if_pos (by rfl)]
    obtain⟨r1,f1⟩:=KD.out.rules
    go_simp
    refine hK.out _ _ ⟨_,rfl⟩ trivial (fun _=>?_)
    clear hK K'
    try simp only[zB]
    have LK3:=KM.out.drew.entry1 d HDO.out (by unfold maxLen;omega) (by rw[Qmx,p2];rfl) hme
    refine twoH 2 4 (oi:=_) (oj:=_) (some 27) (some 29) (by kernel_rfl) rfl rfl rfl rfl rfl rfl (fun K' hK=>?_) (fun K' hK=>?_)
    · refine⟨?_⟩
      rw[if_pos (by rfl)]
      go_simp
      refine hK.out _ _ ⟨_,rfl⟩ trivial (fun _=>?_)
      clear hK K' LK3
      try simp only[zB]
      refine Qah 3 (.int .i64 1) (some 28) rfl rfl (by kernel_rfl) (Or.inl ⟨by rfl,?y3a⟩) trivial ?r3a
      case y3a=>intro w' hS';go_simp;exact IntWalk.i64_in _ (by omega)
      try simp only[zA]
      refine oneH 4 (oi:=_) (some 29) (by kernel_rfl) rfl rfl rfl (fun K' hK=>?_)
      refine⟨?_⟩
      rw[if_pos (by rfl)]
      go_simp
      refine hK.out _ _ ⟨_,rfl⟩ trivial (fun _=>?_)
      clear hK K'
      try simp only[zB]
      refine tk 5 (.int .i64 st) (some 30) trivial ?_
      try simp only[zA]
      refine oneH 6 (oi:=_) (none) (by kernel_rfl) rfl rfl rfl (fun K' hK=>?_)
      refine⟨?_⟩
      rw[if_pos (by rfl)]
      go_simp
      refine hK.out _ _ ⟨undef,rfl⟩ trivial (fun _=>?_)
      clear hK K'
      try simp only[zB]
      refine wpAnyH_done (by kernel_rfl) ?_ _
      clear LK hme hes1 KD KE r0 f0 KM he
      go_wp2_with fail
      go_roundw
      case rel=>exact⟨k+1,by omega,by go_num,E.out,KM4.out,he4⟩
      case measure=>simp[intOf];omega
    · refine⟨?_⟩
      rw[if_pos (by rfl)]
      go_simp
      refine hK.out _ _ ⟨_,rfl⟩ trivial (fun _=>?_)
      clear hK K' LK2
      try simp only[zB]
      refine tk 5 (.int .i64 st) (some 30) trivial ?_
      try simp only[zA]
      refine oneH 2 (oi:=_) (some 27) (by kernel_rfl) rfl rfl rfl (fun K' hK=>?_)
      refine⟨?_⟩
      rw[if_pos (by rfl)]
      go_simp
      refine hK.out _ _ ⟨_,rfl⟩ trivial (fun _=>?_)
      clear hK K'
      try simp only[zB]
      refine Qah 3 (.int .i64 1) (some 28) rfl rfl (by kernel_rfl) (Or.inl ⟨by rfl,?y3b⟩) trivial ?r3b
      case y3b=>intro w' hS';go_simp;exact IntWalk.i64_in _ (by omega)
      try simp only[zA]
      refine oneH 6 (oi:=_) (none) (by kernel_rfl) rfl rfl rfl (fun K' hK=>?_)
      refine⟨?_⟩
      rw[if_pos (by rfl)]
      go_simp
      refine hK.out _ _ ⟨undef,rfl⟩ trivial (fun _=>?_)
      clear hK K'
      try simp only[zB]
      refine wpAnyH_done (by kernel_rfl) ?_ _
      clear LK hme hes1 KD KE r0 f0 KM he
      go_wp2_with fail
      go_roundw
      case rel=>exact⟨k+1,by omega,by go_num,E.out,KM4.out,he4⟩
      case measure=>simp[intOf];omega
  · rw[p2] at LK
    simp only[if_true] at LK
    have E:=hU (show fin=false by rw[F.out];exact Qd2 (k:=k) (by rw[RA.out,p1,p2];rfl) _ hlt)
    go_wp2_with fail
    go_ret
    exact⟨Qam E.out.symm,he⟩
end Go.Proofs.YtbnkjgcpjeedfaaGreat

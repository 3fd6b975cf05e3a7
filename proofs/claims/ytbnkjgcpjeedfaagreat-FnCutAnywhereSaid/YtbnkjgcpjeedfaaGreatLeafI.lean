/-
  LeafAt; Recs2; WriteB; LeafI: No condition.
-/
import Derived.Test.YtbnkjgcpjeedfaaGreatNodeW
import Derived.Test.YtbnkjgcpjeedfaaGreatRecs
import Derived.Test.YtbnkjgcpjeedfaaGreatReopen0
import Derived.Test.YtbnkjgcpjeedfaaGreatTextsB
import Derived.Test.YtbnkjgcpjeedfaaGreatBrkV
namespace Go.Proofs.YtbnkjgcpjeedfaaGreat
set_option maxHeartbeats 2000000
set_option maxRecDepth 100000
set_option linter.unusedSimpArgs false
open Go.RowKit
set_option linter.unusedVariables false
theorem Qhy{α:Type}{p:α->Bool}{l:List α}{k:Nat}{d:α}(h:∀ x∈l.take k,p x=false)(hd:l[k]?=some d)(hp:p d=false):∀ x∈l.take (k+1),p x=false:=by
 obtain⟨hk,rfl⟩:=List.getElem?_eq_some_iff.1 hd
 intro x hx
 rw[List.take_succ_eq_append_getElem hk,List.mem_append] at hx
 rcases hx with hx|hx
 · exact h x hx
 · obtain rfl:=List.mem_singleton.1 hx
   exact hp
theorem Qs9{B:Nat}(A:Option Addr)(c:Nat)(l:List Qaf)(t:ByteArray)(ix:Int)(w:World)(hr:Qav w B Qaf.cells 5 A l)(hl:l.length<=1048576) :
 Calls Tryz.prog 166 #[.slice A l.length c,.string t,.int .i64 ix] w fun e w'=>e=.returned (.int .i64 (idxB (ofTI t ix) l))/\w=w':=by
 have HR:=hU hr
 obtain⟨fin,hfin⟩:∃ fin,fin=idxB (ofTI t ix) l:=⟨_,rfl⟩
 rw[<-hfin]
 have F:=hU hfin
 clear hfin hr
 go_enter Tryz.func166,Tryz.ntmps166
 go_wp2_with fail
 go_loopw [7] (fun i wr=>∃ k:Nat,k<=l.length/\i=.int .i64 k/\(∀ x∈l.take k,ofTI t ix x=false)/\w=wr) (fun i _=>l.length-(intOf i).toNat)
 case atStart=>exact⟨0,Nat.zero_le _,rfl,by simp,rfl⟩
 case round=>
  obtain⟨k,hk,rfl,hi,rfl⟩:=hrel
  have Hi:=hU hi
  clear hi
  by_cases hlt:k<l.length
  case neg=>
   have E:=hU (show fin=-1 by rw[F.out];exact Qgd (by have:=Hi.out;rwa [show k=l.length by omega,List.take_length] at this))
   go_wp2_with fail
   go_ret
   exact⟨Qez E.out.symm,rfl⟩
  obtain⟨b,off,rfl,hb,hc⟩:=Qbb.at_ HR.out (k:=k) hlt
  obtain⟨d,hd⟩:∃ d,d=l[k]:=⟨_,rfl⟩
  have hdl:l[k]?=some d:=by rw[hd];exact List.getElem?_eq_getElem hlt
  obtain⟨c0,c1,c2,c3,c4⟩:=Qdt hc hdl
  have Hdl:=hU hdl
  have P:=hU (show ofTI t ix d=((d.topic.toList==t.toList)&&(d.index==ix)) from rfl)
  clear hc hd hdl
  cases p1:(d.topic.toList==t.toList)
  · have E:=hU (Qhy Hi.out Hdl.out (by rw[P.out,p1];rfl))
    clear P
    go_wp2_with fail
    go_roundw
    case rel=>exact⟨k+1,by omega,by go_num,E.out,trivial⟩
    case measure=>simp[intOf];omega
  by_cases p2:d.index=ix
  · have E:=hU (show fin=(k:Int) by rw[F.out];exact Qhn Hdl.out (by rw[P.out,p1,beq_iff_eq.2 p2];rfl) Hi.out)
    clear P
    go_wp2_with fail
    go_ret
    exact⟨Qez E.out.symm,rfl⟩
  · have E:=hU (Qhy Hi.out Hdl.out (by rw[P.out,p1,beq_false_of_ne p2];rfl))
    clear P
    go_wp2_with fail
    go_roundw
    case rel=>exact⟨k+1,by omega,by go_num,E.out,trivial⟩
    case measure=>simp[intOf];omega
theorem Qxw(A:Option Addr)(c:Nat)(l:List Qab)(r:Qab)(w:World)(hr:Qav w w.heap.size Qab.cells 3 A l)(hl:l.length<=1048576) :
 Calls Tryz.prog 167 #[.slice A l.length c,.agg #[.string r.reader,.string r.topic,.int .i64 r.index]] w fun e w'=>e=.returned (.int .i64 (idxB (fun x=>x.eqb r) l))/\Ext w w':=by
 have HR:=hU hr
 have K0:=hU (Blk.new w 42 #[.string r.reader,.string r.topic,.int .i64 r.index])
 have He:=hU (Ext.new (Below.refl w.heap.size w) (.cells #[.string r.reader,.string r.topic,.int .i64 r.index] 42))
 obtain⟨fin,hfin⟩:∃ fin,fin=idxB (fun x:Qab=>x.eqb r) l:=⟨_,rfl⟩
 rw[<-hfin]
 have F:=hU hfin
 clear hfin hr
 go_enter Tryz.func167,Tryz.ntmps167
 go_wp2_with fail
 obtain⟨g,hg⟩:∃ g,g=w.heap.size:=⟨_,rfl⟩
 rw[<-hg] at K0
 rw[<-hg]
 clear hg
 go_loopw [5] (fun i wr=>∃ k:Nat,k<=l.length/\i=.int .i64 k/\(∀ x∈l.take k,x.eqb r=false)/\Blk wr g 42 #[.string r.reader,.string r.topic,.int .i64 r.index]/\Ext w wr) (fun i _=>l.length-(intOf i).toNat)
 case atStart=>exact⟨0,Nat.zero_le _,rfl,by simp,K0.out,He.out⟩
 case round=>
  clear K0 He
  obtain⟨k,hk,rfl,hi,k0,he⟩:=hrel
  have Hi:=hU hi
  obtain⟨r0,m0⟩:=k0.rules
  have K0:=hU k0
  clear hi k0
  by_cases hlt:k<l.length
  case neg=>
   have E:=hU (show fin=-1 by rw[F.out];exact Qgd (by have:=Hi.out;rwa [show k=l.length by omega,List.take_length] at this))
   go_wp2_with fail
   go_ret
   exact⟨Qez E.out.symm,he⟩
  obtain⟨b,off,rfl,hb,hc⟩:=Qbb.at_ (HR.out.ext he) (k:=k) hlt
  obtain⟨d,hd⟩:∃ d,d=l[k]:=⟨_,rfl⟩
  have hdl:l[k]?=some d:=by rw[hd];exact List.getElem?_eq_getElem hlt
  obtain⟨c0,c1,c2⟩:=Qly hc hdl
  have Hdl:=hU hdl
  have HQ:=Qab.run_eql d r
  clear hc hd hdl
  cases p1:d.eqb r
  · have E:=hU (Qhy (p:=fun x:Qab=>x.eqb r) Hi.out Hdl.out p1)
    go_wp2_with fail
    go_quiet (fail)
    go_wp2_with fail
    go_roundw
    case rel=>exact⟨k+1,by omega,by go_num,E.out,K0.out.drewN _,he.drewN _⟩
    case measure=>simp[intOf];omega
  · have E:=hU (show fin=(k:Int) by rw[F.out];exact Qhn Hdl.out p1 Hi.out)
    go_wp2_with fail
    go_quiet (fail)
    go_wp2_with fail
    go_ret
    exact⟨Qez E.out.symm,he.drewN _⟩
set_option maxHeartbeats 4000000
theorem Qjx(n:Int)(h:Qak):(Qa4 n h).size<=1000:=by
 cases k:Qbc n h
 · rw[Qa4,k];exact Nat.zero_le _
 · have:=(Qks k).2;omega
theorem file_le(b:Qad)(f:Nat):∀ t∈Qay b f,t.size<=1000:=by
 intro t ht
 unfold Qay at ht
 rw[List.mem_append,List.mem_append] at ht
 rcases ht with(ht|ht)|ht
 · split at ht
   · obtain⟨e,he,rfl⟩:=List.mem_map.1 ht;exact Qdr e
   · simp at ht
 · split at ht
   · obtain⟨e,he,rfl⟩:=List.mem_map.1 ht;exact Qjx _ e
   · simp at ht
 · split at ht
   · obtain⟨e,he,rfl⟩:=List.mem_map.1 ht;exact Qco e
   · simp at ht
theorem Qx6{b:Qad}(h:BSz b)(f:Nat):(Qay b f).length<=1048576:=by
 have h0:=h.e;have h1:=h.r;have h2:=h.h
 unfold Qay
 by_cases f0:f=0
 · subst f0;simp[Qct];omega
 by_cases f1:f=1
 · subst f1;simp[Qcz];omega
 by_cases f2:f=2
 · subst f2;simp[Qde];omega
 simp[f0,f1,f2]
theorem Qf5(b:Qad)(f:Nat)(hf:f<3)(t:ByteArray)(g:Nat)(A0:Option Addr)(a0:Nat)(A1:Option Addr)(a1:Nat)(A2:Option Addr)(a2:Nat)(A3:Option Addr)(a3:Nat)(A4:Option Addr)(a4:Nat)(w:World)(hb:Blk w g 37 #[.int .i64 b.width,.slice A0 b.log.entries.length a0,.slice A1 b.receipts.length a1,.slice A2 b.heads.length a2,.int .i64 b.sealed.leaves.size,.slice A3 b.sealed.leaves.peaks.length a3,.int .i64 b.sealed.taken.size,.slice A4 b.sealed.taken.peaks.length a4,.int .i64 b.sealed.head.number,.int .i64 b.sealed.head.size,.string b.sealed.head.root,.int .i64 b.sealed.head.taken,.string b.sealed.head.takenRoot])(s:BArg AnyB w b A0 a0 A1 a1 A2 a2 A3 a3 A4 a4)(hk:TxOk b)(ht:t.size<=maxLen) :
 Calls Tryz.prog 174 #[.pointer (some ⟨g,0,none⟩),.int .i64 (f:Int),.string t] w fun e w'=>∃ v,e=.returned v/\w'.ownsRow w.heap.size 50 3 v 1 (Qcs b f t).cells/\Ext w w':=by
 have C0:=hU (Qq9 b g A0 a0 A1 a1 A2 a2 A3 a3 A4 a4 w hb s hk)
 have HT:=hU ht
 obtain⟨T,hT⟩:∃ T,T=Qay b f:=⟨_,rfl⟩
 have HTs:=hU (show ∀ x∈T,x.size<=1000 from by rw[hT];exact file_le b f)
 have hTl:T.length<=1048576:=by rw[hT];exact Qx6 hk.n f
 have FX:=hU hT
 clear hb s hk ht hT
 go_enter Tryz.func174,Tryz.ntmps174
 go_wp2_with fail
 refine C0.out.mono ?_
 rintro e w1 ⟨V0,c0,V1,c1,V2,c2,rfl,r0,r1,r2,he⟩
 clear C0
 obtain⟨V,cv,hix,hr⟩:∃ V cv,(∀ W:World,(Instr.index 112 (.agg #[.slice V0 (Qct b).length c0,.slice V1 (Qcz b).length c1,.slice V2 (Qde b).length c2]) (.int .i64 (f:Int))).run Tryz.prog W=.ok (.slice V T.length cv) W)/\RowT w.heap.size w1 (.slice V T.length cv) T:=by
  rw[FX.out]
  obtain rfl|rfl|rfl:f=0\/f=1\/f=2:=by omega
  · rw[Qgw];exact⟨V0,c0,fun _=>by kernel_rfl,r0⟩
  · rw[Qij];exact⟨V1,c1,fun _=>by kernel_rfl,r1⟩
  · rw[Qii];exact⟨V2,c2,fun _=>by kernel_rfl,r2⟩
 have HR:=hU (Qb6 hr).reads
 have HE:=hU he
 clear r0 r1 r2 hr he
 go_wp2_with fail
 go_loopw [7,17] (fun v i wr=>∃ k:Nat,k<=T.length/\i=.int .i64 k/\v=.int .i64 ((offT (T.take k):Nat):Int)/\Ext w1 wr) (fun _ i _=>T.length-(intOf i).toNat)
 case atStart=>exact⟨0,Nat.zero_le _,rfl,rfl,Below.refl _ _⟩
 case round=>
  clear hix
  obtain⟨k,hk,rfl,rfl,he⟩:=hrel
  by_cases hlt:k<T.length
  case neg=>
   obtain rfl:k=T.length:=by omega
   rw[List.take_length]
   obtain⟨q,hq⟩:∃ q,q=offT T:=⟨_,rfl⟩
   rw[<-hq]
   have HQ:=hU hq
   clear hq hlt hk
   replace he:=HE.out.next he
   clear HE
   go_wp2_with fail
   refine(Qkp t _ HT.out).mono ?_
   rintro e w2 ⟨rfl,h2⟩
   replace he:=he.next h2
   clear h2
   have hws:=he.size
   obtain⟨F,hF⟩:∃ F,F=Qax t:=⟨_,rfl⟩
   rw[<-hF]
   have HF:=hU hF
   clear hF
   have Z:=hU ((Blk.new w2 50 #[.int .i64 (f:Int),.int .i64 (q:Int),.string F]).ownsRow (xs:=[.int .i64 (f:Int),.int .i64 (q:Int),.string F]) 1 3 w.heap.size hws rfl (by unfold maxLen;omega))
   have X:=hU (he.new (.cells #[.int .i64 (f:Int),.int .i64 (q:Int),.string F] 50))
   clear he hws
   go_wp2_with fail
   go_ret
   refine⟨_,rfl,?_,X.out⟩
   have E:(Qcs b f t).cells=[.int .i64 (f:Int),.int .i64 (q:Int),.string F]:=by rw[HQ.out,HF.out,FX.out];rfl
   rw[E]
   exact Z.out
  obtain⟨x,hx⟩:∃ x,T[k]?=some x:=⟨T[k],List.getElem?_eq_getElem hlt⟩
  obtain⟨b_,off,rfl,hb_,c0⟩:=Qdo (HR.out.ext he) hx
  have hxs:=HTs.out x (List.mem_of_getElem? hx)
  have hq2:=Qxn hx
  have hq1:=Qqc (l:=T.take k) (m:=1000) (fun y hy=>HTs.out y (List.mem_of_mem_take hy))
  rw[List.length_take,Nat.min_eq_left hk] at hq1
  obtain⟨q,hq⟩:∃ q,q=offT (T.take k):=⟨_,rfl⟩
  rw[<-hq] at hq1 hq2
  rw[<-hq]
  have hq3:q<=1100000000:=by omega
  have a1:IntKind.i64.wrap (6+(x.size:Int))=6+(x.size:Int):=IntWalk.i64_in _ (by omega)
  have a2:IntKind.i64.wrap ((q:Int)+(6+(x.size:Int)))=((offT (T.take (k+1)):Nat):Int):=by rw[IntWalk.i64_in _ (by omega),hq2];omega
  clear hx hq2 hq1 hq
  go_wp2_with fail
  go_roundw
  case rel=>exact⟨k+1,by omega,by go_num,rfl,he⟩
  case measure=>simp[intOf];omega
theorem rec_comm(a b:Qab):a.eqb b=b.eqb a:=by
 by_cases h:a=b
 · subst h;rfl
 · have h1:a.eqb b=false:=by cases e:a.eqb b;rfl;exact absurd ((Qab.eqb_iff _ _).1 e) h
   have h2:b.eqb a=false:=by cases e:b.eqb a;rfl;exact absurd ((Qab.eqb_iff _ _).1 e).symm h
   rw[h1,h2]
theorem Qvf(A:Option Addr)(c:Nat)(l:List Qab)(r:Qab)(w:World)(hr:Qav w w.heap.size Qab.cells 3 A l)(hl:l.length<=1048576) :
 Calls Tryz.prog 233 #[.slice A l.length c,.agg #[.string r.reader,.string r.topic,.int .i64 r.index]] w fun e w'=>e=.returned (.int .i64 (idxB (fun x=>x.eqb r) l))/\Ext w w':=by
 have HR:=hU hr
 have K0:=hU (Blk.new w 42 #[.string r.reader,.string r.topic,.int .i64 r.index])
 have He:=hU (Ext.new (Below.refl w.heap.size w) (.cells #[.string r.reader,.string r.topic,.int .i64 r.index] 42))
 obtain⟨fin,hfin⟩:∃ fin,fin=idxB (fun x:Qab=>x.eqb r) l:=⟨_,rfl⟩
 rw[<-hfin]
 have F:=hU hfin
 clear hfin hr
 go_enter Tryz.func233,Tryz.ntmps233
 go_wp2_with fail
 obtain⟨g,hg⟩:∃ g,g=w.heap.size:=⟨_,rfl⟩
 rw[<-hg] at K0
 rw[<-hg]
 clear hg
 go_loopw [8] (fun i wr=>∃ k:Nat,k<=l.length/\i=.int .i64 k/\(∀ x∈l.take k,x.eqb r=false)/\Blk wr g 42 #[.string r.reader,.string r.topic,.int .i64 r.index]/\Ext w wr) (fun i _=>l.length-(intOf i).toNat)
 case atStart=>exact⟨0,Nat.zero_le _,rfl,by simp,K0.out,He.out⟩
 case round=>
  clear K0 He
  obtain⟨k,hk,rfl,hi,k0,he⟩:=hrel
  have Hi:=hU hi
  obtain⟨r0,m0⟩:=k0.rules
  have K0:=hU k0
  clear hi k0
  by_cases hlt:k<l.length
  case neg=>
   have E:=hU (show fin=-1 by rw[F.out];exact Qgd (by have:=Hi.out;rwa [show k=l.length by omega,List.take_length] at this))
   go_wp2_with fail
   go_ret
   exact⟨Qez E.out.symm,he⟩
  obtain⟨b,off,rfl,hb,hc⟩:=Qbb.at_ (HR.out.ext he) (k:=k) hlt
  obtain⟨d,hd⟩:∃ d,d=l[k]:=⟨_,rfl⟩
  have hdl:l[k]?=some d:=by rw[hd];exact List.getElem?_eq_getElem hlt
  obtain⟨c0,c1,c2⟩:=Qly hc hdl
  have Hdl:=hU hdl
  have HQ:=Qab.run_eql r d
  rw[rec_comm r d] at HQ
  clear hc hd hdl
  cases p1:d.eqb r
  · have E:=hU (Qhy (p:=fun x:Qab=>x.eqb r) Hi.out Hdl.out p1)
    go_wp2_with fail
    go_quiet (fail)
    go_wp2_with fail
    go_roundw
    case rel=>exact⟨k+1,by omega,by go_num,E.out,K0.out.drewN _,he.drewN _⟩
    case measure=>simp[intOf];omega
  · have E:=hU (show fin=(k:Int) by rw[F.out];exact Qhn Hdl.out p1 Hi.out)
    go_wp2_with fail
    go_quiet (fail)
    go_wp2_with fail
    go_ret
    exact⟨Qez E.out.symm,he.drewN _⟩
theorem Qk2(A:Option Addr)(c:Nat)(l:List Qab)(r:Qab)(w:World)(hr:Qav w w.heap.size Qab.cells 3 A l)(hl:l.length<=1048576) :
 Calls Tryz.prog 175 #[.slice A l.length c,.agg #[.string r.reader,.string r.topic,.int .i64 r.index]] w fun e w'=>e=.returned (.bool (decide (0<=idxB (fun x=>x.eqb r) l)))/\Ext w w':=by
 have HR:=hU hr
 have He:=hU (Ext.new (Below.refl w.heap.size w) (.cells #[.string r.reader,.string r.topic,.int .i64 r.index] 42))
 clear hr
 go_enter Tryz.func175,Tryz.ntmps175
 go_wp2_with fail
 refine(Qvf A c l r _ (HR.out.ext He.out) hl).mono ?_
 rintro e w1 ⟨rfl,h1⟩
 have he:=He.out.next h1
 clear h1
 obtain⟨q,hq⟩:∃ q,q=idxB (fun x:Qab=>x.eqb r) l:=⟨_,rfl⟩
 rw[<-hq]
 have HQ:=hU hq
 clear hq
 by_cases h0:0<=q
 · have e0:decide (0<=q)=true:=decide_eq_true h0
   go_wp2_with fail
   go_ret
   exact⟨by rw[<-HQ.out,e0];rfl,he⟩
 · have e0:decide (0<=q)=false:=decide_eq_false h0
   go_wp2_with fail
   go_ret
   exact⟨by rw[<-HQ.out,e0];rfl,he⟩
theorem Qne(d:Qaf)(t:ByteArray)(ix:Int)(g1 g2:Nat)(w:World)(hg1:g1<w.heap.size)(hg2:g2<w.heap.size)(h1:w.cell? ⟨g1,0,none⟩=some (.string t))(h2:w.cell? ⟨g2,0,none⟩=some (.int .i64 ix)) :
 Calls Tryz.prog 197 #[.agg #[.string d.topic,.int .i64 d.index,.int .i64 d.time,.string d.key,.string d.body],.pointer (some ⟨g1,0,none⟩),.pointer (some ⟨g2,0,none⟩)] w fun e w'=>e=.returned (.bool (ofTI t ix d))/\Ext w w':=by
 obtain⟨r0,m0⟩:=(Blk.new w 40 #[.string d.topic,.int .i64 d.index,.int .i64 d.time,.string d.key,.string d.body]).rules
 have He:=hU (Ext.new (Below.refl w.heap.size w) (.cells #[.string d.topic,.int .i64 d.index,.int .i64 d.time,.string d.key,.string d.body] 40))
 have k1:=(He.out.cell (p:=⟨g1,0,none⟩) hg1).trans h1
 have k2:=(He.out.cell (p:=⟨g2,0,none⟩) hg2).trans h2
 obtain⟨fin,hfin⟩:∃ fin,fin=ofTI t ix d:=⟨_,rfl⟩
 rw[<-hfin]
 cases p1:(d.topic.toList==t.toList)
 · have E:=hU (show fin=false by rw[hfin,ofTI,p1];rfl)
   clear hfin
   go_enter Tryz.func197,Tryz.ntmps197
   go_wp2_with fail
   go_ret
   exact⟨Qam E.out.symm,He.out⟩
 · have E:=hU (show fin=(d.index==ix) by rw[hfin,ofTI,p1];rfl)
   clear hfin
   go_enter Tryz.func197,Tryz.ntmps197
   go_wp2_with fail
   go_ret
   exact⟨Qam E.out.symm,He.out⟩
theorem Qou(A:Option Addr)(c:Nat)(l:List Qaf)(t:ByteArray)(ix:Int)(g1 g2:Nat)(w:World)(hr:Qav w w.heap.size Qaf.cells 5 A l)(hl:l.length<=1048576)(hg1:g1<w.heap.size)(hg2:g2<w.heap.size)(h1:w.cell? ⟨g1,0,none⟩=some (.string t))(h2:w.cell? ⟨g2,0,none⟩=some (.int .i64 ix)) :
 Calls Tryz.prog 196 #[.slice A l.length c,.func (.func 197) #[] #[.pointer (some ⟨g1,0,none⟩),.pointer (some ⟨g2,0,none⟩)]] w fun e w'=>e=.returned (.int .i64 (idxB (ofTI t ix) l))/\Ext w w':=by
 have HR:=hU hr
 have H1:=hU h1;have H2:=hU h2
 obtain⟨fin,hfin⟩:∃ fin,fin=idxB (ofTI t ix) l:=⟨_,rfl⟩
 rw[<-hfin]
 have F:=hU hfin
 clear hfin hr h1 h2
 go_enter Tryz.func196,Tryz.ntmps196
 go_wp2_with fail
 go_loopw [8] (fun i wr=>∃ k:Nat,k<=l.length/\i=.int .i64 k/\(∀ x∈l.take k,ofTI t ix x=false)/\Ext w wr) (fun i _=>l.length-(intOf i).toNat)
 case atStart=>exact⟨0,Nat.zero_le _,rfl,by simp,Below.refl w.heap.size w⟩
 case round=>
  obtain⟨k,hk,rfl,hi,he⟩:=hrel
  have Hi:=hU hi
  clear hi
  by_cases hlt:k<l.length
  case neg=>
   have E:=hU (show fin=-1 by rw[F.out];exact Qgd (by have:=Hi.out;rwa [show k=l.length by omega,List.take_length] at this))
   go_wp2_with fail
   go_ret
   exact⟨Qez E.out.symm,he⟩
  obtain⟨b,off,rfl,hb,hc⟩:=Qbb.at_ (HR.out.ext he) (k:=k) hlt
  obtain⟨d,hd⟩:∃ d,d=l[k]:=⟨_,rfl⟩
  have hdl:l[k]?=some d:=by rw[hd];exact List.getElem?_eq_getElem hlt
  obtain⟨c0,c1,c2,c3,c4⟩:=Qdt hc hdl
  have Hdl:=hU hdl
  have CC:=hU (fun W=>Qne d t ix g1 g2 W)
  have hes:=he.size
  have J1:wr.cell? ⟨g1,0,none⟩=some (.string t):=(he.cell (p:=⟨g1,0,none⟩) hg1).trans H1.out
  have J2:wr.cell? ⟨g2,0,none⟩=some (.int .i64 ix):=(he.cell (p:=⟨g2,0,none⟩) hg2).trans H2.out
  have K:=hU (CC.out wr (by omega) (by omega) J1 J2)
  have K2:Hid (Calls Tryz.prog 197 #[.agg #[.string d.topic,.int .i64 d.index,.int .i64 d.time,.string d.key,.string d.body],.pointer (some ⟨g1,0,none⟩),.pointer (some ⟨g2,0,none⟩)] wr.drew fun e w'=>e=.returned (.bool (ofTI t ix d))/\Ext wr.drew w'):=hU (CC.out wr.drew (by exact Nat.lt_of_lt_of_le hg1 hes) (by exact Nat.lt_of_lt_of_le hg2 hes) J1 J2)
  clear hc hd hdl J1 J2 CC
  have TN:=hU (fun h=>Qhy Hi.out Hdl.out h)
  go_wp2_with fail
  refine K.out.mono ?_
  rintro e w2 ⟨rfl,h1⟩
  have he2:=he.next h1
  clear he h1 K K2 c0 c1 c2 c3 c4
  cases p1:ofTI t ix d
  · have E:=hU (TN.out p1)
    go_wp2_with fail
    go_roundw
    case rel=>exact⟨k+1,by omega,by go_num,E.out,he2⟩
    case measure=>simp[intOf];omega
  · have E:=hU (show fin=(k:Int) by rw[F.out];exact Qhn Hdl.out p1 Hi.out)
    go_wp2_with fail
    go_ret
    exact⟨Qez E.out.symm,he2⟩
theorem Qpl(A:Option Addr)(c:Nat)(l:List Qaf)(t:ByteArray)(ix:Int)(w:World)(hr:Qav w w.heap.size Qaf.cells 5 A l)(hl:l.length<=1048576) :
 Calls Tryz.prog 120 #[.agg #[.slice A l.length c],.string t,.int .i64 ix] w fun e w'=>e=.returned (.int .i64 (idxB (ofTI t ix) l))/\Ext w w':=by
 have hmf:∀(fn:Fn) (first cap:Array Value) (w:World),(Instr.makeFunc fn first cap).run Tryz.prog w=.ok (.func fn first cap) w:=fun _ _ _ _=>rfl
 have K0:=Blk.new w 26 #[.slice A l.length c]
 have E1:=Ext.new (Below.refl w.heap.size w) (.cells #[.slice A l.length c] 26)
 obtain⟨w1,hw1⟩:∃ w1,w1=w.alloc (.cells #[.slice A l.length c] 26):=⟨_,rfl⟩
 have hs1:w1.heap.size=w.heap.size+1:=by rw[hw1];simp
 rw[<-hw1] at K0 E1
 have K1:=Blk.new w1 9 #[.string t]
 have E2:=E1.new (.cells #[.string t] 9)
 have K01:=K0.alloc (.cells #[.string t] 9)
 obtain⟨w2,hw2⟩:∃ w2,w2=w1.alloc (.cells #[.string t] 9):=⟨_,rfl⟩
 have hs2:w2.heap.size=w1.heap.size+1:=by rw[hw2];simp
 rw[<-hw2] at K1 E2 K01
 have K2:=Blk.new w2 3 #[.int .i64 ix]
 have E3:=E2.new (.cells #[.int .i64 ix] 3)
 have K012:=K01.alloc (.cells #[.int .i64 ix] 3)
 have K12:=K1.alloc (.cells #[.int .i64 ix] 3)
 obtain⟨r0,m0⟩:=K012.rules
 rw[hs1] at K12
 have g1:=K12.lt
 have g2:=K2.lt
 have s1:(w2.alloc (.cells #[.int .i64 ix] 3)).cell? ⟨w.heap.size+1,0,none⟩=some (.string t):=K12.cell 0
 rw[hs2,hs1] at K2 g2
 have s2:(w2.alloc (.cells #[.int .i64 ix] 3)).cell? ⟨w.heap.size+1+1,0,none⟩=some (.int .i64 ix):=K2.cell 0
 have C:=hU (Qou A c l t ix (w.heap.size+1) (w.heap.size+1+1) _ (hr.ext E3) hl g1 g2 s1 s2)
 have E3:=hU E3
 subst hw2
 subst hw1
 clear K0 E1 E2 K01 K1 K2 K012 K12 g1 g2 s1 s2 hs1 hs2
 go_enter Tryz.func120,Tryz.ntmps120
 go_wp2_with fail
 refine C.out.mono ?_
 rintro e w4 ⟨rfl,h4⟩
 go_wp2_with fail
 go_ret
 exact⟨rfl,E3.out.next h4⟩
theorem Qkk(g:Nat)(A:Option Addr)(c:Nat)(l:List Qak)(w:World)(hc3:w.cell? ⟨g,3,none⟩=some (.slice A l.length c))(hg:g<w.heap.size)(hr:Qav w w.heap.size Qak.cells 5 A l)(h0:0<l.length)(hl:l.length<=1048576) :
 Calls Tryz.prog 121 #[.pointer (some ⟨g,0,none⟩)] w fun e w'=>e=.returned (.agg #[.int .i64 (Qaw l).number,.int .i64 (Qaw l).size,.string (Qaw l).root,.int .i64 (Qaw l).taken,.string (Qaw l).takenRoot])/\Ext w w':=by
 obtain⟨h,hh⟩:∃ h,h=Qaw l:=⟨_,rfl⟩
 have hl1:=Qgc h0
 rw[<-hh] at hl1
 rw[<-hh]
 obtain⟨b,off,rfl,hb,hc⟩:=Qbb.at_ hr (k:=l.length-1) (by omega)
 obtain⟨k,hk⟩:∃ k,k=l.length-1:=⟨_,rfl⟩
 obtain⟨L,hL⟩:∃ L,L=l.length:=⟨_,rfl⟩
 have c0:=hc 0 _ (Qa9 _ 5 Qak.cells_length l _ 0 h hl1 (by omega))
 have c1:=hc 1 _ (Qa9 _ 5 Qak.cells_length l _ 1 h hl1 (by omega))
 have c2:=hc 2 _ (Qa9 _ 5 Qak.cells_length l _ 2 h hl1 (by omega))
 have c3:=hc 3 _ (Qa9 _ 5 Qak.cells_length l _ 3 h hl1 (by omega))
 have c4:=hc 4 _ (Qa9 _ 5 Qak.cells_length l _ 4 h hl1 (by omega))
 rw[Nat.add_zero] at c0
 rw[<-hk] at c0 c1 c2 c3 c4
 rw[<-hL] at hc3 h0 hl hk
 have e1:(L:Int)-1=(k:Int):=by omega
 have e2:IntKind.i64.wrap (k:Int)=(k:Int):=IntWalk.i64_in _ (by omega)
 have hkL:k<L:=by omega
 clear hc hl1 hk hL hr hh h0
 have K0:=Blk.new w 33 #[.int .i64 0,.int .i64 0,.string ⟨#[]⟩,.int .i64 0,.string ⟨#[]⟩]
 have E1:=Ext.new (Below.refl w.heap.size w) (.cells #[.int .i64 0,.int .i64 0,.string ⟨#[]⟩,.int .i64 0,.string ⟨#[]⟩] 33)
 obtain⟨q,hq⟩:∃ q,q=w.heap.size:=⟨_,rfl⟩
 have x3:=(E1.cell (p:=⟨g,3,none⟩) hg).trans hc3
 have x0:=(E1.cell (p:=⟨b,off+k*5,none⟩) hb).trans c0
 have x1:=(E1.cell (p:=⟨b,off+k*5+1,none⟩) hb).trans c1
 have x2:=(E1.cell (p:=⟨b,off+k*5+2,none⟩) hb).trans c2
 have x4:=(E1.cell (p:=⟨b,off+k*5+3,none⟩) hb).trans c3
 have x5:=(E1.cell (p:=⟨b,off+k*5+4,none⟩) hb).trans c4
 have Hq:=hU hq
 clear hq hc3 c0 c1 c2 c3 c4
 go_enter Tryz.func121,Tryz.ntmps121
 go_wp2_with fail
 rw[<-Hq.out]
 have T:=hU (show Blk (w.alloc (.cells #[.int .i64 0,.int .i64 0,.string ⟨#[]⟩,.int .i64 0,.string ⟨#[]⟩] 33)) q 33 #[.int .i64 0,.int .i64 0,.string ⟨#[]⟩,.int .i64 0,.string ⟨#[]⟩] by rw[Hq.out];exact K0)
 clear K0
 generalize w.alloc (.cells #[.int .i64 0,.int .i64 0,.string ⟨#[]⟩,.int .i64 0,.string ⟨#[]⟩] 33)=w1 at *
 go_still_tail 12,(by kernel_rfl)
 change wpList _ _ _ _ _ w1.drew
 generalize hd:w1.drew=w2
 have T2:Hid (Blk w2 q 33 #[.int .i64 0,.int .i64 0,.string ⟨#[]⟩,.int .i64 0,.string ⟨#[]⟩]):=hU (by rw[<-hd];exact T.out)
 have E2:Ext w w2:=by rw[<-hd];exact E1.drew
 have hqw:w.heap.size<=q:=by have:=Hq.out;omega
 clear hd E1 T x3 x0 x1 x2 x4 x5
 have B2:=hU (T2.out.put 0 [.int .i64 h.number,.int .i64 h.size,.string h.root,.int .i64 h.taken,.string h.takenRoot] #[.int .i64 h.number,.int .i64 h.size,.string h.root,.int .i64 h.taken,.string h.takenRoot] (by simp) rfl)
 have E3:=hU (Qaa (W:=w) (g:=q) hqw [.int .i64 h.number,.int .i64 h.size,.string h.root,.int .i64 h.taken,.string h.takenRoot] 0 _ E2)
 obtain⟨zc,zf⟩:=T2.out.rules
 go_wp2_with fail
 exact Qdc rfl rfl B2.out Tryz.underlying33 rfl (by kernel_rfl) rfl ⟨rfl,E3.out⟩
end Go.Proofs.YtbnkjgcpjeedfaaGreat

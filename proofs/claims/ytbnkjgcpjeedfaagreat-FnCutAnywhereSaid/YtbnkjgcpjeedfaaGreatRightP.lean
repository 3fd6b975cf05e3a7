/-
  BrkOwn; StrS; MarkS; MarkBase; MarkEntry; MarkOwnEntry; MarkReceipt; MarkOwnReceipt; MarkHead; MarkOwnHead; MarkWrite; MarkOwnWrite; MarkSS; OwnMark; MarkRowB; BrkEn2; BrAns; ConvWrite; BVal; TextsP; PubP; TakeP; SealP; RightP: No condition.
-/
import Derived.Test.YtbnkjgcpjeedfaaGreatCopyC
import Derived.Test.YtbnkjgcpjeedfaaGreatBrkV
import Derived.Test.YtbnkjgcpjeedfaaGreatReadLf
import Derived.Test.YtbnkjgcpjeedfaaGreatMem
import Derived.Test.YtbnkjgcpjeedfaaGreatRowTx
import Derived.Test.YtbnkjgcpjeedfaaGreatReopenR
import Derived.StillTailTactics
import Derived.Test.YtbnkjgcpjeedfaaGreatDisk0
import Derived.Test.YtbnkjgcpjeedfaaGreatReadHd
import Derived.Test.YtbnkjgcpjeedfaaGreatLeafText
namespace Go.Proofs.YtbnkjgcpjeedfaaGreat
set_option linter.unusedSimpArgs false
open Go.RowKit
set_option linter.unusedVariables false



section
variable {α : Type} {f : α → List Value} {size : Nat} {l : List α} {cs : Array Value} {k : Nat}
end











section
variable {α : Type} {f : α → List Value} {size : Nat} {mk : Nat → Nat → List α}
end
def Qol (B:Qad) (W:List Qbs) (c:Nat) (w:World) (e:Ending) (w':World):Prop:=
 ∃ ve vr vh v1 v2 vw,e=.returned (.tuple #[.agg (Qe8 B ve vr vh v1 v2).toArray,vw,.int .i64 (c:Int)])/\Qb9 w.heap.size w' B ve vr vh v1 v2/\(∀ x,v1.ownBlock=some x->v2.ownBlock≠some x)/\w'.ownsRow w.heap.size 50 3 vw W.length (W.flatMap Qbs.cells)/\Ext w w'
theorem Qol.bad{w w':World}{e:Ending}{vw:Value}{k:Nat}(he:e=.returned (.tuple #[.agg #[.int .i64 0,.slice none 0 0,.slice none 0 0,.slice none 0 0,.int .i64 0,.slice none 0 0,.int .i64 0,.slice none 0 0,.int .i64 0,.int .i64 0,.string ⟨#[]⟩,.int .i64 0,.string ⟨#[]⟩],vw,.int .i64 (k:Int)]))(ho:w'.ownsRow w.heap.size 50 3 vw 0 [])(hx:Ext w w'):Qol noB [] k w e w':=
 ⟨_,_,_,_,_,vw,he,Qb9.zero _ _,(fun x h=>by cases h),ho,hx⟩
theorem Qjz{K:Nat}{w w1 w2:World}(he:Ext w w1)(h:Below K w1 w2)(hK:w.heap.size<=K):Ext w w2:=
 Below.trans he ⟨h.os,h.tape,h.output,h.size,fun k hk=>h.block k (by omega)⟩
theorem Qoc{K g t:Nat}{w w':World}{cs:Array Value}(h:Below K w w')(hb:Blk w g t cs)(hg:g<K):Blk w' g t cs:=(h.block g hg).trans hb
theorem Qd6{P:Program}{fn:Func}{R:Ending->World->Prop}{a:Act}{w:World}{p u v:Tmp}{ty g t:Nat}{cs:Array Value}{d:TypeDesc}(h:fn.results=#[.cell p ty,.tmp u,.tmp v])
 (hp:a.tmps.getD p undef=.pointer (some ⟨g,0,none⟩)) (hB:Blk w g t cs) (hu:P.underlying ty=some d) (hd:(match d with|.struct _|.array _ _=>true|_=>false)=true) (hi:(P.info? ty).map (·.size)=some cs.size)
 (hdef:a.defers=[]) (hR:R (.returned (.tuple #[.agg cs,a.tmps.getD u undef,a.tmps.getD v undef])) w):bodyPost P fn R .ret a w:=by
 refine bodyPost_ret (v:=.tuple #[.agg cs,a.tmps.getD u undef,a.tmps.getD v undef]) ?_ hdef hR
 have hp':a.tmps[p]?.getD undef=.pointer (some ⟨g,0,none⟩):=by simpa using hp
 simp[results,h,hp',asAddr,Sem.run_bind,Result.andThen,run_loadVar_row w g t ty cs (0,0) d hB hu hd hi]

def BRdL (p:Nat->Prop) (B:Qad) (L:List Value) (w:World):Prop:=∃ X0 x0 X1 x1 X2 x2 X3 x3 X4 x4,L=brkV B X0 x0 X1 x1 X2 x2 X3 x3 X4 x4/\BArg p w B X0 x0 X1 x1 X2 x2 X3 x3 X4 x4
def BVal (K:Nat) (B:Qad) (L:List Value) (w:World):Prop:=∃ X0 x0 X1 x1 X2 x2 X3 x3 X4 x4,L=brkV B X0 x0 X1 x1 X2 x2 X3 x3 X4 x4/\Qb9 K w B (.slice X0 B.log.entries.length x0) (.slice X1 B.receipts.length x1) (.slice X2 B.heads.length x2) (.slice X3 B.sealed.leaves.peaks.length x3) (.slice X4 B.sealed.taken.peaks.length x4)/\(∀ x,(Value.slice X3 B.sealed.leaves.peaks.length x3).ownBlock=some x->(Value.slice X4 B.sealed.taken.peaks.length x4).ownBlock≠some x)
section
variable {p q : Nat → Prop} {K K' k : Nat} {B : Qad} {L M : List Value} {w w' : World}
theorem BRdL.keep(h:BRdL p B L w)(he:Keep p w w'):BRdL p B L w':=by
 obtain⟨X0,x0,X1,x1,X2,x2,X3,x3,X4,x4,h1,h2⟩:=h
 exact⟨X0,x0,X1,x1,X2,x2,X3,x3,X4,x4,h1,h2.keep he⟩
theorem BRdL.ext(h:BRdL p B L w)(he:Ext w w'):BRdL p B L w':=h.keep (he.keep p)
theorem BRdL.len(h:BRdL p B L w):L.length=13:=by obtain⟨_,_,_,_,_,_,_,_,_,_,rfl,_⟩:=h;rfl
theorem BVal.len(h:BVal K B L w):L.length=13:=by obtain⟨_,_,_,_,_,_,_,_,_,_,rfl,_⟩:=h;rfl
theorem BVal.one(h:BVal K B L w):L.all (·.oneCell')=true:=by obtain⟨_,_,_,_,_,_,_,_,_,_,rfl,_⟩:=h;rfl
theorem BVal.ext(h:BVal K B L w)(he:Ext w w'):BVal K B L w':=by
 obtain⟨X0,x0,X1,x1,X2,x2,X3,x3,X4,x4,h1,h2,h3⟩:=h
 exact⟨X0,x0,X1,x1,X2,x2,X3,x3,X4,x4,h1,h2.ext he,h3⟩
theorem Qmw{α:Type}{f:α->List Value}{size:Nat}{p:Nat->Prop}{w:World}{A:Option Addr}{l:List α}{c:Nat}(h:SlF p f size w A l c):SlF (fun b=>b<w.heap.size) f size w A l c:=
 ⟨h.le,h.cap,h.reads,fun h0 a e=>by obtain⟨b,off,e2,hb,_⟩:=h.reads.2 h0;rw[e] at e2;cases e2;exact hb⟩
theorem BVal.rd(h:BVal K B L w):BRdL (fun b=>b<w.heap.size) B L w:=by
 obtain⟨X0,x0,X1,x1,X2,x2,X3,x3,X4,x4,h1,h2,h3⟩:=h
 exact⟨X0,x0,X1,x1,X2,x2,X3,x3,X4,x4,h1,Qmw (Qb6 h2.e),Qmw (Qb6 h2.r),Qmw (Qb6 h2.h),Qmw (Qb6 h2.p),Qmw (Qb6 h2.q)⟩
end
def Qct (b:Qad):List ByteArray:=b.log.entries.map Qa3
def Qcz (b:Qad):List ByteArray:=(b.heads.drop 1).map (Qa4 b.width)
def Qde (b:Qad):List ByteArray:=b.receipts.map Qan
def Qay (b:Qad) (f:Nat):List ByteArray:=(if f=0 then Qct b else[])++(if f=1 then Qcz b else[])++(if f=2 then Qde b else[])
theorem Qgw(b:Qad):Qay b 0=Qct b:=by simp[Qay]
theorem Qij(b:Qad):Qay b 1=Qcz b:=by simp[Qay]
theorem Qii(b:Qad):Qay b 2=Qde b:=by simp[Qay]
def offT:List ByteArray->Nat
 | []=>0
 | t :: r=>(6+t.size)+offT r
theorem Qm7:∀(a b:List ByteArray),offT (a++b)=offT a+offT b
 | [],b=>by simp[offT]
 | t :: r,b=>by simp only[List.cons_append,offT,Qm7 r b];omega
theorem Qqc{m:Nat}:∀ {l:List ByteArray},(∀ t∈l,t.size<=m)->offT l<=l.length*(m+6)
 | [],_=>by simp[offT]
 | t :: r,h=>by
   have h1:=h t (by simp)
   have h2:=Qqc (l:=r) (m:=m) (fun x hx=>h x (by simp[hx]))
   simp only[offT,List.length_cons,Nat.succ_mul]
   omega
theorem Qxn{l:List ByteArray}{k:Nat}{t:ByteArray}(h:l[k]?=some t):offT (l.take (k+1))=offT (l.take k)+(6+t.size):=by
 obtain⟨h1,h2⟩:=List.getElem?_eq_some_iff.1 h
 rw[List.take_succ_eq_append_getElem h1,Qm7,h2]
 simp[offT]
theorem Qns:∀ {l:List ByteArray},(∀ t∈l,Qe5 t=true)->(Qal l).size=offT l
 | [],_=>rfl
 | t :: r,h=>by
   have h1:=Qd9 (h t (by simp))
   have h2:=Qns (l:=r) (fun x hx=>h x (by simp[hx]))
   simp only[Qal,ByteArray.size_append,offT,h1,h2]
   omega
theorem Qqi{d:Qaf}(h:Qbk d=true):1<=(Qa3 d).size/\(Qa3 d).size<=500:=by
 have:=Qd0 h
 unfold Qa3
 rw[if_pos h,Qva]
 have e:(lowB d.time.toNat 4).size=4:=rfl
 have e1:(⟨#[69]⟩:ByteArray).size=1:=rfl
 have o1:∀ k:Int,(octB k).size=1:=fun _=>rfl
 simp only[ByteArray.size_append,o1,e,e1]
 omega
theorem Qmf{d:Qab}(h:Qau d=true):1<=(Qan d).size/\(Qan d).size<=500:=by
 have h':=h
 simp only[Qau,Bool.and_eq_true] at h'
 have s1:=Qb7 h'.1.1
 have s2:=Qb7 h'.1.2
 unfold Qan
 rw[if_pos h,Qit]
 have e1:(⟨#[82]⟩:ByteArray).size=1:=rfl
 have o1:∀ k:Int,(octB k).size=1:=fun _=>rfl
 simp only[ByteArray.size_append,o1,e1]
 omega
theorem Qks{n:Int}{d:Qak}(h:Qbc n d=true):1<=(Qa4 n d).size/\(Qa4 n d).size<=500:=by
 have:=Qfz h
 unfold Qa4
 rw[if_pos h,Qx0]
 simp only[ByteArray.size_append,Qby]
 omega
theorem Qx5{t:ByteArray}(h:1<=t.size/\t.size<=500):Qe5 t=true:=by
 unfold Qe5 inR
 simp only[Bool.and_eq_true,decide_eq_true_eq]
 omega
theorem Qg8{l:List ByteArray}(hl:l.length<=512)(h:∀ t∈l,1<=t.size/\t.size<=500):Qb5 l=true/\(Qai l).size=offT l:=by
 have h1:∀ t∈l,Qe5 t=true:=fun t ht=>Qx5 (h t ht)
 have h2:=Qns h1
 have h3:=Qqc (l:=l) (m:=500) (fun t ht=>(h t ht).2)
 have h4:Qb5 l=true:=Ql4 (by omega) h1 (by rw[h2];omega)
 exact⟨h4,by rw[Qds h4,h2]⟩
theorem Qfl{b:Qad}(hE:∀ e∈b.log.entries,Qbk e=true)(hR:∀ r∈b.receipts,Qau r=true)(hH:∀ h∈b.heads,Qbc b.width h=true)(f:Nat):∀ t∈Qay b f,1<=t.size/\t.size<=500:=by
 intro t ht
 unfold Qay at ht
 rw[List.mem_append,List.mem_append] at ht
 rcases ht with(ht|ht)|ht
 · split at ht
   · obtain⟨e,he,rfl⟩:=List.mem_map.1 ht;exact Qqi (hE e he)
   · simp at ht
 · split at ht
   · obtain⟨e,he,rfl⟩:=List.mem_map.1 ht;exact Qks (hH e (List.mem_of_mem_drop he))
   · simp at ht
 · split at ht
   · obtain⟨e,he,rfl⟩:=List.mem_map.1 ht;exact Qmf (hR e he)
   · simp at ht
theorem Qhp{b:Qad}(h0:b.log.entries.length<=512)(h1:b.receipts.length<=512)(h2:b.heads.length<=400)(f:Nat):(Qay b f).length<=512:=by
 unfold Qay
 by_cases f0:f=0
 · subst f0;simp[Qct];omega
 by_cases f1:f=1
 · subst f1;simp[Qcz];omega
 by_cases f2:f=2
 · subst f2;simp[Qde];omega
 simp[f0,f1,f2]
theorem Qbh{b:Qad}(h:Qar b=true):inR b.width 1 32=true/\b.log.entries.length<=512/\(∀ e∈b.log.entries,Qbk e=true)/\b.receipts.length<=512/\(∀ r∈b.receipts,Qau r=true)/\0<b.heads.length/\b.heads.length<=400/\(∀ h∈b.heads,Qbc b.width h=true):=by
 rw[Qar,Bool.and_eq_true] at h
 have p:=h.1
 simp only[Qbu,Bool.and_eq_true,decide_eq_true_eq] at p
 obtain⟨⟨⟨⟨⟨⟨⟨hw,hlog⟩,hrec⟩,h0⟩,hh⟩,hz0⟩,hsl⟩,hrd⟩:=p
 have l3:=Qci hh
 refine⟨hw,(Qgb hlog).1,(Qgb hlog).2,(Qe0 hrec).1,(Qe0 hrec).2,h0,l3.2.1,fun x hx=>?_⟩
 obtain⟨j,hj,e⟩:=List.mem_iff_getElem.1 hx
 exact(Qfk (List.getElem?_eq_some_iff.2 ⟨hj,e⟩) (l3.2.2 j hj)).1
def Qcs (b:Qad) (f:Nat) (t:ByteArray):Qbs:=⟨(f:Int),((offT (Qay b f):Nat):Int),Qax t⟩
def Qcu (l:List Qaf) (e:Qaf):Nat:=if Qcn e.topic then(if Qef e.time e.key e.body then(if 512<=l.length then 4 else 0) else 3) else 2
theorem ad2{l:List Qaf}{e:Qaf}(h:Qcn e.topic=false):Qcu l e=2:=by simp[Qcu,h]
theorem ad3{l:List Qaf}{e:Qaf}(h:Qcn e.topic=true)(h1:Qef e.time e.key e.body=false):Qcu l e=3:=by simp[Qcu,h,h1]
theorem ad4{l:List Qaf}{e:Qaf}(h:Qcn e.topic=true)(h1:Qef e.time e.key e.body=true)(h2:512<=l.length):Qcu l e=4:=by simp[Qcu,h,h1,h2]
theorem ad0{l:List Qaf}{e:Qaf}(h:Qcn e.topic=true)(h1:Qef e.time e.key e.body=true)(h2:¬ 512<=l.length):Qcu l e=0:=by simp[Qcu,h,h1,h2]
theorem Qtm{l:List Qaf}{e:Qaf}(h:Qcu l e=0):Qcn e.topic=true/\Qef e.time e.key e.body=true/\l.length<512:=by
 unfold Qcu at h
 cases h1:Qcn e.topic
 · rw[h1] at h;simp at h
 · cases h2:Qef e.time e.key e.body
   · rw[h1,h2] at h;simp at h
   · rw[h1,h2] at h
     by_cases h3:512<=l.length
     · simp[h3] at h
     · exact⟨rfl,rfl,by omega⟩
def Qfw (b:Qad) (e:Qaf):Qaf:=Qla b.log.entries e
def pbB0 (b:Qad) (e:Qaf):Qad:=⟨b.width,⟨b.log.entries++[Qfw b e]⟩,b.receipts,b.heads,b.sealed⟩
theorem write0{b b':Qad}(h:b'.log=b.log)(t:ByteArray):Qcs b' 0 t=Qcs b 0 t:=by
 unfold Qcs;rw[Qgw,Qgw,Qct,Qct,h]
def Qee (b:Qad) (r:Qab):Nat:=
 if Qau r then(if inR (idxB (ofTI r.topic r.index) b.log.entries) 0 ((Qaw b.heads).size-1) then(if 0<=idxB (fun x=>x.eqb r) b.receipts then 4 else if 512<=b.receipts.length then 5 else 0) else 3) else 2
def tkB (b:Qad) (r:Qab):Qad:=⟨b.width,b.log,b.receipts++[r],b.heads,b.sealed⟩
theorem tk2{b:Qad}{r:Qab}(h:Qau r=false):Qee b r=2:=by simp[Qee,h]
theorem tk3{b:Qad}{r:Qab}(h:Qau r=true)(h1:inR (idxB (ofTI r.topic r.index) b.log.entries) 0 ((Qaw b.heads).size-1)=false):Qee b r=3:=by simp[Qee,h,h1]
theorem tk4{b:Qad}{r:Qab}(h:Qau r=true)(h1:inR (idxB (ofTI r.topic r.index) b.log.entries) 0 ((Qaw b.heads).size-1)=true)(h2:0<=idxB (fun x=>x.eqb r) b.receipts):Qee b r=4:=by simp[Qee,h,h1,h2]
theorem tk5{b:Qad}{r:Qab}(h:Qau r=true)(h1:inR (idxB (ofTI r.topic r.index) b.log.entries) 0 ((Qaw b.heads).size-1)=true)(h2:¬ 0<=idxB (fun x=>x.eqb r) b.receipts)(h3:512<=b.receipts.length):Qee b r=5:=by simp only[Qee,h,h1,h2,h3,if_true,if_false]
theorem tk0{b:Qad}{r:Qab}(h:Qau r=true)(h1:inR (idxB (ofTI r.topic r.index) b.log.entries) 0 ((Qaw b.heads).size-1)=true)(h2:¬ 0<=idxB (fun x=>x.eqb r) b.receipts)(h3:¬ 512<=b.receipts.length):Qee b r=0:=by simp only[Qee,h,h1,h2,h3,if_true,if_false]
theorem Qqk{b:Qad}(h:Qar b=true):Qbc b.width (Qaw b.heads)=true/\0<=(Qaw b.heads).size/\(Qaw b.heads).size<=512:=by
 obtain⟨hw,_,_,_,_,h0,_,hh⟩:=Qbh h
 have h1:=hh _ (List.mem_of_getElem? (Qgc h0))
 have h2:=Qg5 h1
 exact⟨h1,h2.1,h2.2.1⟩
def slL (b:Qad):List ByteArray:=Qa8 b.width b.log.entries
def slT (b:Qad):List ByteArray:=Qbp b.width b.receipts
def Qb4 (b:Qad):Qak:=⟨(Qaw b.heads).number+1,((slL b).length:Nat),Qff b.width (slL b),((slT b).length:Nat),Qff b.width (slT b)⟩
def Qa6 (b:Qad):Qlb:=⟨Qbi b.width (slL b),Qbi b.width (slT b),Qb4 b⟩
def Qjq (b:Qad):Qad:=⟨b.width,b.log,b.receipts,b.heads,Qa6 b⟩
def slB (b:Qad):Qad:=⟨b.width,b.log,b.receipts,b.heads++[Qb4 b],Qa6 b⟩
def Qev (b:Qad):Nat:=if(b.log.entries.length:Int)-(Qaw b.heads).size=0/\(b.receipts.length:Int)-(Qaw b.heads).taken=0 then 2 else if 400<=b.heads.length then 3 else 0
theorem sl2{b:Qad}(h1:(b.log.entries.length:Int)-(Qaw b.heads).size=0)(h2:(b.receipts.length:Int)-(Qaw b.heads).taken=0):Qev b=2:=by rw[Qev,if_pos ⟨h1,h2⟩]
theorem sl3{b:Qad}(h:¬ ((b.log.entries.length:Int)-(Qaw b.heads).size=0/\(b.receipts.length:Int)-(Qaw b.heads).taken=0))(h2:400<=b.heads.length):Qev b=3:=by rw[Qev,if_neg h,if_pos h2]
theorem sl0{b:Qad}(h:¬ ((b.log.entries.length:Int)-(Qaw b.heads).size=0/\(b.receipts.length:Int)-(Qaw b.heads).taken=0))(h2:¬ 400<=b.heads.length):Qev b=0:=by rw[Qev,if_neg h,if_neg h2]
theorem Qss(b:Qad)(f:Nat)(t:ByteArray):Qcs (Qjq b) f t=Qcs b f t:=rfl
structure SlF_ (b:Qad) (n1 n2:Nat):Prop where
 s:(Qaw b.heads).size=(n1:Int)
 t:(Qaw b.heads).taken=(n2:Int)
 e:n1<=b.log.entries.length
 r:n2<=b.receipts.length
 w:inR b.width 1 32=true
 z:b.sealed=⟨⟨(n1:Int),(Qbt (ndB b.width) ((slL b).take n1)).reverse⟩,⟨(n2:Int),(Qbt (ndB b.width) ((slT b).take n2)).reverse⟩,Qaw b.heads⟩
 n:(Qaw b.heads).number=((b.heads.length-1:Nat):Int)
 l:∀ x∈slL b,WdT b.width x
 m:∀ x∈slT b,WdT b.width x
 h0:0<b.heads.length
 le:b.log.entries.length<=512
 lr:b.receipts.length<=512
 lh:b.heads.length<=400
theorem Qir{b:Qad}(h:Qar b=true):∃ n1 n2,SlF_ b n1 n2:=by
 obtain⟨hw,he,he2,hr,hr2,h0,hh,hok⟩:=Qbh h
 have h':=h
 rw[Qar,Bool.and_eq_true] at h'
 have p:=h'.1
 simp only[Qbu,Bool.and_eq_true,decide_eq_true_eq] at p
 obtain⟨⟨⟨⟨⟨⟨⟨_,hlog⟩,hrec⟩,_⟩,hhs⟩,hz0⟩,hsl⟩,hrd⟩:=p
 have hl:=Qg5 (hok _ (List.mem_of_getElem? (Qgc h0)))
 have h1:=Qdl.1 hsl (b.heads.length-1) (by omega)
 rw[Qc0,Qgc h0] at h1
 simp only[Bool.and_eq_true,decide_eq_true_eq] at h1
 have e1:=h1.1.1.1;have e2:=h1.1.1.2
 rw[Qa8,List.length_map] at e1
 rw[Qbp,List.length_map] at e2
 have hs:=Qfv.1 h'.2
 refine⟨(Qaw b.heads).size.toNat,(Qaw b.heads).taken.toNat,⟨by omega,by omega,by omega,by omega,hw,?_,?_,fun x hx=>Qib hw hlog x hx,fun x hx=>Qjk hw hrec x hx,h0,he,hr,hh⟩⟩
 · rw[<-hs]
   have k1:((Qa8 b.width b.log.entries).take (Qaw b.heads).size.toNat).length=(Qaw b.heads).size.toNat:=by rw[List.length_take,Qa8,List.length_map];omega
   have k2:((Qbp b.width b.receipts).take (Qaw b.heads).taken.toNat).length=(Qaw b.heads).taken.toNat:=by rw[List.length_take,Qbp,List.length_map];omega
   simp only[Qbx,Qbi,slL,slT,k1,k2]
 · exact(Qfk (Qgc h0) ((Qci hhs).2.2 _ (by omega))).2
theorem Qp1{α:Type}(nd:α->α->α)(L:List α){n:Nat}(h:n<=L.length):Qcj nd n (Qbt nd (L.take n)) (L.drop n)=Qbt nd L:=by
 have h1:=Qll (nd:=nd) L (a:=n) (b:=L.length) h (Nat.le_refl _)
 rw[List.take_of_length_le (l:=L.drop n) (by rw[List.length_drop];omega),List.take_of_length_le (l:=L) (Nat.le_refl _)] at h1
 exact h1
theorem Qe7(b:Qad):Qar b=true↔inR b.width 1 32=true/\Qgj b.log.entries=true/\Qdx b.receipts=true/\0<b.heads.length/\Qdj b.width b.heads=true/\(b.heads.headD hz).eqb (newH true b.width)=true/\
 (∀ k,k<b.heads.length->Qc0 b.width (Qa8 b.width b.log.entries) (Qbp b.width b.receipts) b.heads k=true)/\(∀ k,k<b.receipts.length->Qh6 b k=true)/\Qbx b.width (Qa8 b.width b.log.entries) (Qbp b.width b.receipts) (Qaw b.heads)=b.sealed:=by
 rw[Qar,Bool.and_eq_true,Qfv]
 simp only[Qbu,Bool.and_eq_true,decide_eq_true_eq,Qdl]
 constructor
 · rintro⟨⟨⟨⟨⟨⟨⟨⟨h1,h2⟩,h3⟩,h4⟩,h5⟩,h6⟩,h7⟩,h8⟩,h9⟩
   exact⟨h1,h2,h3,h4,h5,h6,h7,h8,h9⟩
 · rintro⟨h1,h2,h3,h4,h5,h6,h7,h8,h9⟩
   exact⟨⟨⟨⟨⟨⟨⟨⟨h1,h2⟩,h3⟩,h4⟩,h5⟩,h6⟩,h7⟩,h8⟩,h9⟩
theorem Qu9{l:List Qaf}{x:Qaf}(h:Qgj l=true)(hl:l.length<512)(hx:Qbk x=true)(hi:(cntT l x.topic:Int)=x.index):Qgj (l++[x])=true:=by
 simp only[Qgj,Bool.and_eq_true,decide_eq_true_eq,Qdl] at h ⊢
 refine⟨by simp;omega,fun k hk=>?_⟩
 by_cases e:k=l.length
 · subst e
   have e1:(l++[x])[l.length]?=some x:=by simp
   have e2:(l++[x]).take l.length=l:=by simp
   rw[Qqf,e1,e2]
   simp[hx,hi]
 · have hk2:k<l.length:=by simp at hk;omega
   have:=h.2 k hk2
   have e1:(l++[x])[k]?=l[k]?:=List.getElem?_append_left hk2
   have e2:(l++[x]).take k=l.take k:=List.take_append_of_le_length (by omega)
   rw[Qqf] at this ⊢
   rw[e1,e2];exact this
theorem idxB_app{α:Type}{p:α->Bool}{l m:List α}{k:Nat}(h:idxB p l=(k:Int)):idxB p (l++m)=(k:Int):=by
 obtain⟨x,h1,h2,h3⟩:=Qkq h
 have hk:=(List.getElem?_eq_some_iff.1 h1).1
 exact Qhn (by rw[List.getElem?_append_left hk];exact h1) h2 (fun y hy=>h3 y (by rw[List.take_append_of_le_length (by omega)] at hy;exact hy))
theorem Qs2{l:List Qab}{x:Qab}(h:Qdx l=true)(hl:l.length<512)(hx:Qau x=true)(hi:¬ 0<=idxB (fun y=>y.eqb x) l):Qdx (l++[x])=true:=by
 simp only[Qdx,Bool.and_eq_true,decide_eq_true_eq,Qdl] at h ⊢
 refine⟨by simp;omega,fun k hk=>?_⟩
 by_cases e:k=l.length
 · subst e
   have e1:(l++[x])[l.length]?=some x:=by simp
   have e3:=Qhn (p:=fun y:Qab=>y.eqb x) e1 (by simp[Qab.eqb_iff]) (fun y hy=>Qqp (Int.not_le.1 hi) y (by simpa using hy))
   rw[Qp9,e1]
   simp only[hx,Bool.true_and,beq_iff_eq]
   exact e3
 · have hk2:k<l.length:=by simp at hk;omega
   have:=h.2 k hk2
   have e1:(l++[x])[k]?=l[k]?:=List.getElem?_append_left hk2
   rw[Qp9] at this ⊢
   rw[e1]
   cases hr:l[k]? with
   | none=>rw[hr] at this;exact absurd this (by simp)
   | some r=>
     rw[hr] at this
     simp only[Bool.and_eq_true,beq_iff_eq] at this ⊢
     exact⟨this.1,idxB_app this.2⟩
theorem Qo8{w:Int}{L T L' T':List ByteArray}{hs:List Qak}{k:Nat}(h:Qc0 w L T hs k=true):Qc0 w (L++L') (T++T') hs k=true:=by
 rw[Qc0] at h ⊢
 cases hk:hs[k]? with
 | none=>rw[hk] at h;exact absurd h (by simp)
 | some x=>
   rw[hk] at h
   simp only[Bool.and_eq_true,decide_eq_true_eq] at h ⊢
   have e1:(L++L').take x.size.toNat=L.take x.size.toNat:=List.take_append_of_le_length (by omega)
   have e2:(T++T').take x.taken.toNat=T.take x.taken.toNat:=List.take_append_of_le_length (by omega)
   rw[e1,e2]
   refine⟨⟨⟨?_,?_⟩,h.1.2⟩,h.2⟩
   · rw[List.length_append];omega
   · rw[List.length_append];omega
theorem Qmz{w:Int}{L T L' T':List ByteArray}{h:Qak}(h1:h.size.toNat<=L.length)(h2:h.taken.toNat<=T.length):Qbx w (L++L') (T++T') h=Qbx w L T h:=by
 unfold Qbx
 rw[List.take_append_of_le_length h1,List.take_append_of_le_length h2]
theorem Qnc(w:Int)(l m:List Qaf):Qa8 w (l++m)=Qa8 w l++Qa8 w m:=by simp[Qa8]
theorem Qo6(w:Int)(l m:List Qab):Qbp w (l++m)=Qbp w l++Qbp w m:=by simp[Qbp]
theorem Qri{b:Qad}{e:Qaf}(hB:Qar b=true)(h:Qcu b.log.entries e=0):Qar (pbB0 b e)=true:=by
 obtain⟨n1,n2,sf⟩:=Qir hB
 obtain⟨h1,h2,h3,h4,h5,h6,h7,h8,h9⟩:=(Qe7 b).1 hB
 obtain⟨g1,g2,g3⟩:=Qtm h
 have hc:=Qlt b.log.entries e.topic
 rw[Qe7]
 refine⟨h1,Qu9 h2 g3 ?_ rfl,h3,h4,h5,h6,?_,?_,?_⟩
 · simp only[Qbk,Qfw,Qla,Bool.and_eq_true]
   exact⟨⟨g1,by simp[inR];omega⟩,g2⟩
 · intro k hk
   have:=h7 k hk
   show Qc0 b.width (Qa8 b.width (b.log.entries++[Qfw b e])) (Qbp b.width b.receipts) b.heads k=true
   rw[Qnc,<-List.append_nil (Qbp b.width b.receipts)]
   exact Qo8 this
 · intro k hk
   have:=h8 k hk
   rw[Qh6] at this ⊢
   show(match b.receipts[k]? with
    | some r=>decide (0<=idxB (ofTI r.topic r.index) ((b.log.entries++[Qfw b e]).take (Qaw b.heads).size.toNat))
    | none=>false)=true
   rw[List.take_append_of_le_length (by rw[sf.s];exact sf.e)]
   exact this
 · show Qbx b.width (Qa8 b.width (b.log.entries++[Qfw b e])) (Qbp b.width b.receipts) (Qaw b.heads)=b.sealed
   rw[Qnc,<-List.append_nil (Qbp b.width b.receipts),Qmz,h9]
   · rw[sf.s,Qa8,List.length_map];exact sf.e
   · rw[sf.t,Qbp,List.length_map];exact sf.r
theorem Qo9{b:Qad}{r:Qab}(hB:Qar b=true)(h:Qee b r=0):Qar (tkB b r)=true:=by
 obtain⟨n1,n2,sf⟩:=Qir hB
 obtain⟨h1,h2,h3,h4,h5,h6,h7,h8,h9⟩:=(Qe7 b).1 hB
 have g:Qau r=true/\inR (idxB (ofTI r.topic r.index) b.log.entries) 0 ((Qaw b.heads).size-1)=true/\¬ 0<=idxB (fun x=>x.eqb r) b.receipts/\b.receipts.length<512:=by
  unfold Qee at h
  cases c1:Qau r
  · rw[c1] at h;simp at h
  · cases c2:inR (idxB (ofTI r.topic r.index) b.log.entries) 0 ((Qaw b.heads).size-1)
    · rw[c1,c2] at h;simp at h
    · rw[c1,c2,if_pos rfl,if_pos rfl] at h
      refine⟨rfl,rfl,?_⟩
      split at h
      · omega
      · rename_i h0
        split at h
        · omega
        · exact⟨h0,by omega⟩
 obtain⟨g1,g2,g3,g4⟩:=g
 rw[Qe7]
 refine⟨h1,h2,Qs2 h3 g4 g1 g3,h4,h5,h6,?_,?_,?_⟩
 · intro k hk
   have:=h7 k hk
   show Qc0 b.width (Qa8 b.width b.log.entries) (Qbp b.width (b.receipts++[r])) b.heads k=true
   rw[Qo6,<-List.append_nil (Qa8 b.width b.log.entries)]
   exact Qo8 this
 · intro k hk
   rw[Qh6]
   show(match (b.receipts++[r])[k]? with
    | some r=>decide (0<=idxB (ofTI r.topic r.index) (b.log.entries.take (Qaw b.heads).size.toNat))
    | none=>false)=true
   by_cases e:k=b.receipts.length
   · subst e
     have e1:(b.receipts++[r])[b.receipts.length]?=some r:=by simp
     rw[e1]
     have g5:=Qa0 g2
     have:=Qif (p:=ofTI r.topic r.index) b.log.entries (Qaw b.heads).size.toNat
     simp only[this,Bool.and_eq_true,decide_eq_true_eq]
     have q:=sf.s
     omega
   · have hk2:k<b.receipts.length:=by
      have:k<(b.receipts++[r]).length:=hk
      simp at this;omega
     have:=h8 k hk2
     rw[List.getElem?_append_left hk2]
     rw[Qh6] at this
     exact this
 · show Qbx b.width (Qa8 b.width b.log.entries) (Qbp b.width (b.receipts++[r])) (Qaw b.heads)=b.sealed
   rw[Qo6,<-List.append_nil (Qa8 b.width b.log.entries),Qmz,h9]
   · rw[sf.s,Qa8,List.length_map];exact sf.e
   · rw[sf.t,Qbp,List.length_map];exact sf.r
theorem Qry{n:Int}{l:List Qak}{g h:Qak}(hl:Qdj n l=true)(h4:l.length<400)(hg:l[l.length-1]?=some g)(h0:0<l.length)(hf:Qcc n g h=true)(hn:h.number=(l.length:Int)):Qdj n (l++[h])=true:=by
 obtain⟨a,b,c⟩:=Qci hl
 simp only[Qdj,Bool.and_eq_true,decide_eq_true_eq,Qdl]
 refine⟨⟨a,by simp;omega⟩,fun k hk=>?_⟩
 by_cases e:k=l.length
 · obtain⟨j,hj⟩:∃ j,l.length=j+1:=⟨l.length-1,by omega⟩
   have e1:(l++[h])[k]?=some h:=by rw[e];simp
   have e2:(l++[h])[j]?=some g:=by rw[List.getElem?_append_left (by omega),<-hg,hj];rfl
   have hok:Qbc n h=true:=by
    simp only[Qcc,Bool.and_eq_true] at hf
    exact hf.1.1.1.1.2
   rw[hj] at e
   subst e
   rw[Qeh,e1]
   simp only[e2,hf,hok,hn,hj,Bool.and_true,Bool.true_and,beq_iff_eq]
 · have hk2:k<l.length:=by simp at hk;omega
   have:=c k hk2
   have e1:(l++[h])[k]?=l[k]?:=List.getElem?_append_left hk2
   rw[Qeh] at this ⊢
   rw[e1]
   cases k with
   | zero=>exact this
   | succ j=>
     have e2:(l++[h])[j]?=l[j]?:=List.getElem?_append_left (by omega)
     simp only[e2]
     exact this
theorem Qpa{b:Qad}(hB:Qar b=true)(h:Qev b=0):Qar (slB b)=true:=by
 obtain⟨n1,n2,sf⟩:=Qir hB
 obtain⟨h1,h2,h3,h4,h5,h6,h7,h8,h9⟩:=(Qe7 b).1 hB
 have hl:b.heads.length<400:=by
  unfold Qev at h
  split at h
  · omega
  · split at h
    · omega
    · omega
 have hw2:=Qa0 h1
 have hlast:=Qgc h4
 have hlok:=(Qqk hB).1
 have e1:(slL b).length=b.log.entries.length:=by rw[slL,Qa8,List.length_map]
 have e2:(slT b).length=b.receipts.length:=by rw[slT,Qbp,List.length_map]
 have t1:=Qo4 h1 _ (slL b) (Nat.le_refl _) sf.l
 have t2:=Qo4 h1 _ (slT b) (Nat.le_refl _) sf.m
 have q1:=sf.e;have q2:=sf.r;have q3:=sf.le;have q4:=sf.lr;have q5:=sf.n;have q6:=sf.s;have q7:=sf.t
 have hsl:=h7 (b.heads.length-1) (by omega)
 rw[Qc0,hlast] at hsl
 simp only[Bool.and_eq_true,decide_eq_true_eq,beq_iff_eq] at hsl
 have rt:∀(L:List ByteArray),L.length<=512->(Qff b.width L).size=b.width.toNat->Qfg b.width ((L.length:Nat):Int) (Qff b.width L)=true:=by
  intro L hL hs
  simp only[Qfg,Bool.and_eq_true,Bool.or_eq_true,decide_eq_true_eq,beq_iff_eq]
  refine⟨⟨by simp[inR];omega,by omega⟩,?_⟩
  rcases Nat.eq_zero_or_pos L.length with h0|h0
  · right;rw[List.eq_nil_of_length_eq_zero h0];rfl
  · left;omega
 have hok:Qbc b.width (Qb4 b)=true:=by
  have i1:inR (Qb4 b).number 0 399=true:=by
   show inR ((Qaw b.heads).number+1) 0 399=true
   simp[inR];omega
  have i2:Qfg b.width (Qb4 b).size (Qb4 b).root=true:=rt _ (by omega) t1
  have i3:Qfg b.width (Qb4 b).taken (Qb4 b).takenRoot=true:=rt _ (by omega) t2
  rw[Qbc,h1,i1,i2,i3];rfl
 have hpart:Ql0 (Qaw b.heads) (Qb4 b)=false:=by
  simp only[Ql0,Qb4,Bool.or_eq_false_iff,Bool.and_eq_false_iff]
  constructor
  · by_cases c:(Qaw b.heads).size=((slL b).length:Int)
    · right
      rw[Bool.not_eq_false',beq_iff_eq,hsl.1.2]
      have:(Qa8 b.width b.log.entries).take (Qaw b.heads).size.toNat=slL b:=by rw[c];show(slL b).take _=_;exact List.take_of_length_le (by omega)
      rw[this]
    · left;exact beq_false_of_ne c
  · by_cases c:(Qaw b.heads).taken=((slT b).length:Int)
    · right
      rw[Bool.not_eq_false',beq_iff_eq,hsl.2]
      have:(Qbp b.width b.receipts).take (Qaw b.heads).taken.toNat=slT b:=by rw[c];show(slT b).take _=_;exact List.take_of_length_le (by omega)
      rw[this]
    · left;exact beq_false_of_ne c
 have hfol:Qcc b.width (Qaw b.heads) (Qb4 b)=true:=by
  simp only[Qcc,hlok,hok,hpart,Bool.and_eq_true,decide_eq_true_eq,Bool.not_false]
  refine⟨⟨⟨⟨⟨trivial,trivial⟩,?_⟩,?_⟩,?_⟩,trivial⟩
  · show(Qaw b.heads).number<(Qaw b.heads).number+1;omega
  · show(Qaw b.heads).size<=((slL b).length:Int);omega
  · show(Qaw b.heads).taken<=((slT b).length:Int);omega
 have hla:Qaw (b.heads++[Qb4 b])=Qb4 b:=by simp[Qaw]
 have hL:(slL b).take ((Qb4 b).size.toNat)=slL b:=List.take_of_length_le (by show(slL b).length<=(((slL b).length:Nat):Int).toNat;omega)
 have hT:(slT b).take ((Qb4 b).taken.toNat)=slT b:=List.take_of_length_le (by show(slT b).length<=(((slT b).length:Nat):Int).toNat;omega)
 rw[Qe7]
 refine⟨h1,h2,h3,?_,Qry h5 hl hlast h4 hfol ?_,?_,?_,?_,?_⟩
 · show 0<(b.heads++[Qb4 b]).length
   simp
 · show(Qaw b.heads).number+1=(b.heads.length:Int);omega
 · show((b.heads++[Qb4 b]).headD hz).eqb (newH true b.width)=true
   cases hh:b.heads with
   | nil=>rw[hh] at h4;simp at h4
   | cons x r=>rw[hh] at h6;exact h6
 · intro k hk
   show Qc0 b.width (slL b) (slT b) (b.heads++[Qb4 b]) k=true
   by_cases e:k=b.heads.length
   · subst e
     have e1:(b.heads++[Qb4 b])[b.heads.length]?=some (Qb4 b):=by simp
     rw[Qc0,e1]
     simp only[hL,hT]
     simp[Qb4]
   · have hk2:k<b.heads.length:=by
      have:k<(b.heads++[Qb4 b]).length:=hk
      simp at this;omega
     have:=h7 k hk2
     rw[Qc0] at this ⊢
     rw[List.getElem?_append_left hk2]
     exact this
 · intro k hk
   have:=h8 k hk
   rw[Qh6] at this ⊢
   show(match b.receipts[k]? with
    | some r=>decide (0<=idxB (ofTI r.topic r.index) (b.log.entries.take (Qaw (b.heads++[Qb4 b])).size.toNat))
    | none=>false)=true
   rw[hla]
   cases hr:b.receipts[k]? with
   | none=>rw[hr] at this;exact absurd this (by simp)
   | some r=>
     rw[hr] at this
     simp only[decide_eq_true_eq] at this ⊢
     have i1:=Qif (p:=ofTI r.topic r.index) b.log.entries (Qaw b.heads).size.toNat
     have i2:=Qif (p:=ofTI r.topic r.index) b.log.entries (Qb4 b).size.toNat
     rw[decide_eq_true this] at i1
     have i3:0<=idxB (ofTI r.topic r.index) b.log.entries/\idxB (ofTI r.topic r.index) b.log.entries<=((Qaw b.heads).size.toNat:Int)-1:=by
      have:=i1.symm
      simpa only[Bool.and_eq_true,decide_eq_true_eq] using this
     have i4:(Qb4 b).size.toNat=b.log.entries.length:=by show(((slL b).length:Nat):Int).toNat=_;omega
     have i5:decide (0<=idxB (ofTI r.topic r.index) b.log.entries)=true:=decide_eq_true i3.1
     have i6:decide (idxB (ofTI r.topic r.index) b.log.entries<=((Qb4 b).size.toNat:Int)-1)=true:=decide_eq_true (by rw[i4];omega)
     rw[i5,i6] at i2
     simpa using i2
 · show Qbx b.width (slL b) (slT b) (Qaw (b.heads++[Qb4 b]))=Qa6 b
   rw[hla,Qbx,hL,hT]
   rfl
def Qs6 (n:Int):Qad:=⟨n,⟨[]⟩,[],[newH true n],⟨⟨0,[]⟩,⟨0,[]⟩,newH true n⟩⟩
theorem Qw3{n:Int}(hn:inR n 1 32=true):Qar (Qs6 n)=true:=by
 have hw2:=Qa0 hn
 have t0:(Qcg n).size=n.toNat:=Qeb (by rw[Qn1];exact hn)
 have r0:Qfg n 0 (Qcg n)=true:=by
  simp only[Qfg,Bool.and_eq_true,Bool.or_eq_true,decide_eq_true_eq,beq_iff_eq]
  exact⟨⟨rfl,by omega⟩,.inr trivial⟩
 have hok:Qbc n (newH true n)=true:=by
  rw[Qbc,hn]
  show(true&&inR 0 0 399&&Qfg n 0 (Qcg n)&&Qfg n 0 (Qcg n))=true
  rw[r0];rfl
 rw[Qe7]
 refine⟨hn,rfl,rfl,Nat.one_pos,?_,Qak.eqb_self _,?_,?_,?_⟩
 · have e1:Qeh n [newH true n] 0=true:=by
    show(Qbc n (newH true n)&&((newH true n).number==((0:Nat):Int))&&true)=true
    rw[hok];rfl
   show(inR n 1 32&&decide ((1:Nat)<=400)&&(true&&Qeh n [newH true n] 0))=true
   rw[hn,e1];rfl
 · intro k hk
   obtain rfl:k=0:=by have:k<1:=hk;omega
   have e:Qff n []=Qcg n:=rfl
   show(match ([newH true n]:List Qak)[0]? with
    | some h=>decide (h.size<=(0:Nat))&&decide (h.taken<=(0:Nat))&&(h.root.toList==(Qff n (([]:List ByteArray).take h.size.toNat)).toList)&&(h.takenRoot.toList==(Qff n (([]:List ByteArray).take h.taken.toNat)).toList)
    | none=>false)=true
   simp[newH,e]
 · intro k hk;exact absurd hk (by show ¬ k<0;omega)
 · rfl
end Go.Proofs.YtbnkjgcpjeedfaaGreat

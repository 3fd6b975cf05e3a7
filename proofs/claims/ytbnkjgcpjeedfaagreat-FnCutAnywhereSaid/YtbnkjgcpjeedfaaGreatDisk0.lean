/-
  LeafBk; FramesLaw; FramesWk; EvidenceOps; EvOf; Disk0: No condition.
-/
import Derived.Test.YtbnkjgcpjeedfaaGreatReadLf
import Derived.Test.YtbnkjgcpjeedfaaGreatRowTx
import Derived.Test.YtbnkjgcpjeedfaaGreatRets
import Derived.Test.YtbnkjgcpjeedfaaGreatLeaf
import Derived.Test.YtbnkjgcpjeedfaaGreatBrkNew
import Derived.Test.YtbnkjgcpjeedfaaGreatBunch
namespace Go.Proofs.YtbnkjgcpjeedfaaGreat
set_option linter.unusedSimpArgs false
open Go.RowKit
set_option linter.unusedVariables false
def Rest (T:ByteArray) (r:Rd) (Y:ByteArray):Prop:=r.bad=false/\∃ X,T=X++Y/\X.size=r.pos
theorem Rest.start(T:ByteArray):Rest T ⟨0,false⟩ T:=⟨rfl,⟨#[]⟩,by rw[show(⟨#[]⟩:ByteArray)++T=T from ByteArray.empty_append],rfl⟩
theorem part_mid(X a Y:ByteArray):(X++(a++Y)).extract X.size (X.size+a.size)=a:=by
 have h1:(X++(a++Y)).extract X.size (X.size+a.size)=(X++(a++Y)).extract (X.size+0) (X.size+a.size):=rfl
 apply ByteArray.ext
 rw[<-Array.toList_inj]
 simp[ByteArray.data_extract,ByteArray.data_append,List.drop_append,List.take_append,<-ByteArray.size_data]
theorem Rest.take{T:ByteArray}{r:Rd}{a Y:ByteArray}{n:Nat}(h:Rest T r (a++Y))(hn:a.size=n):Qaq T r n=a/\Rest T (Qb3 T r n) Y:=by
 obtain⟨hb,X,rfl,hX⟩:=h
 subst hn
 have hf:Qe2 (X++(a++Y)) r a.size=false:=by
  simp only[Qe2,hb,Bool.false_or,decide_eq_false_iff_not,ByteArray.size_append]
  omega
 refine⟨?_,?_,X++a,?_,?_⟩
 · rw[Qaq,hf,<-hX];exact part_mid X a Y
 · rw[Qb3,hf];rfl
 · rw[ByteArray.append_assoc]
 · rw[Qb3,hf,ByteArray.size_append,hX];rfl
theorem Rest.short{T:ByteArray}{r:Rd}{b a Y:ByteArray}{n:Nat}(h:Rest T r (b++(a++Y)))(hn:b.size=n)(hb:Qb0 b=a.size):Qbm T r n=a/\Rest T (Qc3 T r n) Y:=by
 obtain⟨h1,h2⟩:=h.take hn
 rw[Qbm,Qc3,h1,hb]
 exact h2.take rfl
theorem Rest.done{T:ByteArray}{r:Rd}(h:Rest T r ⟨#[]⟩):Qfh T r=true:=by
 obtain⟨hb,X,rfl,hX⟩:=h
 rw[Qfh,hb,show X++(⟨#[]⟩:ByteArray)=X from ByteArray.append_empty,hX]
 simp
theorem Qk8(k:Nat)(h:k<256):Qb0 (octB (k:Int))=k:=by
 have:(UInt8.ofNat k).toNat=k:=by simp[UInt8.toNat_ofNat'];omega
 simp[Qb0,octB,Qc8,this]
 omega
theorem Qi6(k:Nat)(h:k<65536):Qb0 (octB ((k:Int) / 256)++octB (k:Int))=k:=by
 have e:(k:Int) / 256=((k / 256:Nat):Int):=by omega
 rw[e]
 simp[Qb0,octB,Qc8,ByteArray.data_append,UInt8.toNat_ofNat']
 omega
theorem Qvt(k:Nat)(h:k<4294967296):Qb0 (lowB k 4)=k:=by
 show Qb0 (octB ((k / 256 ^ 3:Nat):Int)++(octB ((k / 256 ^ 2:Nat):Int)++(octB ((k / 256 ^ 1:Nat):Int)++(octB ((k / 256 ^ 0:Nat):Int)++⟨#[]⟩))))=k
 simp[Qb0,octB,Qc8,ByteArray.data_append,UInt8.toNat_ofNat']
 omega
theorem Qpz(a b:Int):(octB a++octB b).size=2:=by rw[ByteArray.size_append];rfl
theorem Qpi{x:Int}(h:0<=x):∃ k:Nat,x=(k:Int):=⟨x.toNat,by omega⟩
theorem Qlx{d:Qab}(h:Qau d=true):Qdf (Qan d)=true/\rrD (Qan d)=d:=by
 obtain⟨a,t,i⟩:=d
 have hk:=h
 simp only[Qau,Bool.and_eq_true] at h
 obtain⟨⟨h1,h2⟩,h3⟩:=h
 have s1:=Qb7 h1
 have s2:=Qb7 h2
 obtain⟨i0,i1⟩:=Qa0 h3
 obtain⟨k,rfl⟩:=Qpi i0
 have R0:=Rest.start (Qan ⟨a,t,(k:Int)⟩)
 have e:Qan ⟨a,t,(k:Int)⟩=⟨#[82]⟩++(octB a.size++(a++(octB t.size++(t++((octB ((k:Int) / 256)++octB (k:Int))++⟨#[]⟩))))):=by
  rw[Qan,hk,if_pos rfl,Qit,show ∀ X:ByteArray,X++(⟨#[]⟩:ByteArray)=X from fun X=>ByteArray.append_empty]
  simp only[ByteArray.append_assoc]
 generalize Qan ⟨a,t,(k:Int)⟩=T at *
 rw[e] at R0
 obtain⟨p0,R1⟩:=R0.take (n:=1) rfl
 rw[<-e] at p0 R1
 obtain⟨p1,R2⟩:=R1.short (n:=1) rfl (Qk8 _ (by omega))
 obtain⟨p2,R3⟩:=R2.short (n:=1) rfl (Qk8 _ (by omega))
 obtain⟨p3,R4⟩:=R3.take (n:=2) (Qpz _ _)
 have hD:rrD T=⟨a,t,(k:Int)⟩:=by
  show(⟨Qbm T (rr1 T) 1,Qbm T (rr2 T) 1,(Qb0 (Qaq T (rr3 T) 2):Int)⟩:Qab)=_
  rw[show Qbm T (rr1 T) 1=a from p1,show Qbm T (rr2 T) 1=t from p2,show Qaq T (rr3 T) 2=_ from p3,Qi6 _ (by omega)]
 refine⟨?_,hD⟩
 rw[Qdf,hD,hk,Qm1,show Qaq T rr0 1=_ from p0,show Qfh T (rr4 T)=true from R4.done,Qxx]
 simp
theorem Qrr{d:Qaf}(h:Qbk d=true):Qc7 (Qa3 d)=true/\rlD (Qa3 d)=d:=by
 obtain⟨t,i,m,y,b⟩:=d
 have hk:=h
 simp only[Qbk,Qef,Bool.and_eq_true,decide_eq_true_eq] at h
 obtain⟨⟨h1,h3⟩,⟨h4,h5⟩,h6⟩:=h
 have s1:=Qb7 h1
 obtain⟨i0,i1⟩:=Qa0 h3
 obtain⟨m0,m1⟩:=Qa0 h4
 obtain⟨k,rfl⟩:=Qpi i0
 obtain⟨n,rfl⟩:=Qpi m0
 (try simp only at s1 h5 h6 i1 m1)
 have R0:=Rest.start (Qa3 ⟨t,(k:Int),(n:Int),y,b⟩)
 have e:Qa3 ⟨t,(k:Int),(n:Int),y,b⟩=⟨#[69]⟩++(octB t.size++(t++((octB ((k:Int) / 256)++octB (k:Int))++(lowB n 4++(octB y.size++(y++((octB ((b.size:Int) / 256)++octB (b.size:Int))++(b++⟨#[]⟩)))))))):=by
  rw[Qa3,hk,if_pos rfl,Qva,show ∀ X:ByteArray,X++(⟨#[]⟩:ByteArray)=X from fun X=>ByteArray.append_empty]
  simp only[ByteArray.append_assoc,Int.toNat_natCast]
 generalize Qa3 ⟨t,(k:Int),(n:Int),y,b⟩=T at *
 rw[e] at R0
 obtain⟨p0,R1⟩:=R0.take (n:=1) rfl
 rw[<-e] at p0 R1
 obtain⟨p1,R2⟩:=R1.short (n:=1) rfl (Qk8 _ (by omega))
 obtain⟨p2,R3⟩:=R2.take (n:=2) (Qpz _ _)
 obtain⟨p3,R4⟩:=R3.take (n:=4) rfl
 obtain⟨p4,R5⟩:=R4.short (n:=1) rfl (Qk8 _ (by omega))
 obtain⟨p5,R6⟩:=R5.short (n:=2) (Qpz _ _) (Qi6 _ (by omega))
 have hD:rlD T=⟨t,(k:Int),(n:Int),y,b⟩:=by
  show(⟨Qbm T (rl1 T) 1,(Qb0 (Qaq T (rl2 T) 2):Int),(Qb0 (Qaq T (rl3 T) 4):Int),Qbm T (rl4 T) 1,Qbm T (rl5 T) 2⟩:Qaf)=_
  rw[show Qbm T (rl1 T) 1=t from p1,show Qaq T (rl2 T) 2=_ from p2,show Qaq T (rl3 T) 4=_ from p3,show Qbm T (rl4 T) 1=y from p4,show Qbm T (rl5 T) 2=b from p5,Qi6 _ (by omega),Qvt _ (by omega)]
 refine⟨?_,hD⟩
 rw[Qc7,hD,hk,Qm2,show Qaq T rl0 1=_ from p0,show Qfh T (rl6 T)=true from R6.done,Qxx]
 simp
def Qe5 (T:ByteArray):Bool:=inR T.size 1 1000
def Qal:List ByteArray->ByteArray
 | []=>⟨#[]⟩
 | T :: l=>Qb2 T++Qal l
theorem Qdz:∀(a b:List ByteArray),Qal (a++b)=Qal a++Qal b
 | [],b=>by simp[Qal];exact ByteArray.empty_append.symm
 | T :: a,b=>by rw[List.cons_append,Qal,Qal,Qdz a b,ByteArray.append_assoc]
theorem Qd9{T:ByteArray}(h:Qe5 T=true):(Qb2 T).size=T.size+6:=by
 have:=Qk0 h
 have:=Qby T.size 2
 rw[Qb2,ByteArray.size_append,ByteArray.size_append];omega
theorem Qkw{T:ByteArray}(h:Qe5 T=true):1<=T.size/\T.size<=1000:=by
 obtain⟨h0,h1⟩:=Qa0 h
 omega
theorem Qhc{n:Nat}(h:n<65536):Qb0 (lowB n 2)=n:=by rw[Qi2];exact Qi6 n h
theorem Qug{U T Y:ByteArray}{p:Nat}(h:Rest U (fa0 p) (Qb2 T++Y))(ht:Qe5 T=true) :
 faOk U p=true/\Qfs U p=T/\Rest U (fa3 U p) Y/\(fa3 U p).pos=p+(Qb2 T).size:=by
 obtain⟨t0,t1⟩:=Qkw ht
 have e:Qb2 T++Y=lowB T.size 2++(Qcy 4 4 T++(T++Y)):=by rw[Qb2,ByteArray.append_assoc,ByteArray.append_assoc]
 rw[e] at h
 obtain⟨h1,h2⟩:=h.take (n:=2) (Qby _ _)
 obtain⟨h3,h4⟩:=h2.take (n:=4) (Qk0 ht)
 have hN:faN U p=T.size:=by rw[faN,h1,Qhc (by omega)]
 obtain⟨h5,h6⟩:=h4.take (n:=faN U p) hN.symm
 have hT:Qfs U p=T:=h5
 have hS:faSum U p=Qcy 4 4 T:=h3
 have hb:(fa3 U p).bad=false:=h6.1
 have hok:faOk U p=true:=by
  simp only[faOk,hb,hT,hS,hN,Bool.and_eq_true,Bool.not_false,true_and]
  exact⟨ht,beq_self_eq_true _⟩
 exact⟨hok,hT,h6,by rw[(Qkx hok).1,hN,Qd9 ht];omega⟩
theorem Rest.size{U Y:ByteArray}{r:Rd}(h:Rest U r Y):U.size=r.pos+Y.size:=by
 obtain⟨_,X,rfl,hX⟩:=h
 rw[ByteArray.size_append,hX]
theorem Qn3{A B:ByteArray}{j:Nat}:(A++B).extract 0 j=A.extract 0 j++B.extract 0 (j-A.size):=by
 rw[ByteArray.extract_append]
 simp
theorem Qdk{A:ByteArray}{j:Nat}(h:A.size<=j):A.extract 0 j=A:=by
 apply ByteArray.ext
 rw[<-Array.toList_inj]
 simp[ByteArray.data_extract]
 rw[List.take_of_length_le]
 simpa [<-ByteArray.size_data] using h
theorem Qnz{T:ByteArray}{p:Nat}(h:¬ p+6+faN T p<=T.size):faOk T p=false:=by
 cases b:faOk T p
 · rfl
 · exact absurd (fa_bad b) h
theorem Qx3{U T:ByteArray}{p j:Nat}(h:Rest U (fa0 p) ((Qb2 T).extract 0 j))(ht:Qe5 T=true)(hj:j<(Qb2 T).size):faOk U p=false:=by
 obtain⟨t0,t1⟩:=Qkw ht
 have hfs:=Qd9 ht
 have hs:=h.size
 rw[ByteArray.size_extract] at hs
 have hp:(fa0 p).pos=p:=rfl
 rw[hp] at hs
 refine Qnz ?_
 intro hle
 have hj2:2<=j:=by omega
 have e:(Qb2 T).extract 0 j=lowB T.size 2++(Qcy 4 4 T++T).extract 0 (j-2):=by
  rw[Qb2,ByteArray.append_assoc,Qn3,Qdk (by rw[Qby];exact hj2),Qby]
 rw[e] at h
 obtain⟨h1,_⟩:=h.take (n:=2) (Qby _ _)
 have hN:faN U p=T.size:=by rw[faN,h1,Qhc (by omega)]
 omega
theorem Qwe(U:ByteArray):∀(l:List ByteArray) (f p j:Nat),(∀ T∈l,Qe5 T=true)->l.length<=f->j<=(Qal l).size->Rest U (fa0 p) ((Qal l).extract 0 j)->
 ∃ m,m<=l.length/\Qeu U f p=(l.take m,p+(Qal (l.take m)).size)/\(Qal (l.take m)).size<=j/\∀(hm:m<l.length),j<(Qal (l.take m)).size+(Qb2 l[m]).size
 | [],f,p,j,_,_,hj,h=>by
   have hs:=h.size
   simp only[Qal,ByteArray.size_extract] at hs
   have hp:(fa0 p).pos=p:=rfl
   have hz:(Qal []).size=0:=rfl
   have hj0:j=0:=by omega
   have hk:faOk U p=false:=Qnz (by
    have:(⟨#[]⟩:ByteArray).size=0:=rfl
    omega)
   refine⟨0,Nat.le_refl _,?_,Nat.zero_le _,fun hm=>absurd hm (Nat.lt_irrefl 0)⟩
   cases f with
   | zero=>rfl
   | succ f=>rw[Qeu,if_neg (by rw[hk];decide)];rfl
 | T :: l,f,p,j,ht,hf,hj,h=>by
   have t1:=ht T (by simp)
   obtain⟨f,rfl⟩:∃ f',f=f'+1:=⟨f-1,by simp at hf;omega⟩
   by_cases hF:(Qb2 T).size<=j
   · rw[Qal,Qn3,Qdk hF] at h
     obtain⟨a1,a2,a3,a4⟩:=Qug h t1
     have hr:Rest U (fa0 (p+(Qb2 T).size)) ((Qal l).extract 0 (j-(Qb2 T).size)):=by
      have e3:fa3 U p=fa0 (p+(Qb2 T).size):=by
       have hb:=a3.1
       cases hfa:fa3 U p with
       | mk pos bad=>rw[hfa] at a4 hb;simp only at a4 hb;rw[a4,hb];rfl
      rw[<-e3];exact a3
     obtain⟨m,hm,h1,h2,h3⟩:=Qwe U l f (p+(Qb2 T).size) (j-(Qb2 T).size) (fun x hx=>ht x (by simp[hx])) (by simp at hf;exact hf) (by rw[Qal,ByteArray.size_append] at hj;omega) hr
     refine⟨m+1,by simp;omega,?_,?_,fun hlt=>?_⟩
     · rw[Qeu,if_pos a1,a2,a4,h1,List.take_succ_cons,Qal,ByteArray.size_append]
       simp only[Prod.mk.injEq,true_and];omega
     · rw[List.take_succ_cons,Qal,ByteArray.size_append];omega
     · have:=h3 (by simp at hlt;exact hlt)
       rw[List.take_succ_cons,Qal,ByteArray.size_append,List.getElem_cons_succ];omega
   · rw[Qal,Qn3,show j-(Qb2 T).size=0 by omega] at h
     have hk:faOk U p=false:=Qx3 (j:=j) (by
      have e:(Qal l).extract 0 0=⟨#[]⟩:=by apply ByteArray.ext;simp[ByteArray.data_extract]
      rw[e,append_nil] at h;exact h) t1 (by omega)
     exact⟨0,Nat.zero_le _,by rw[Qeu,if_neg (by rw[hk];decide)];rfl,Nat.zero_le _,fun _=>by show j<0+(Qb2 T).size;omega⟩
def Qb5 (l:List ByteArray):Bool:=decide (l.length<=600)&&l.all Qe5&&decide ((Qal l).size<=300000)
def Qai (l:List ByteArray):ByteArray:=if Qb5 l then Qal l else⟨#[]⟩
theorem Qek{l:List ByteArray}(h:Qb5 l=true):l.length<=600/\(∀ T∈l,Qe5 T=true)/\(Qal l).size<=300000:=by
 simp only[Qb5,Bool.and_eq_true,decide_eq_true_eq,List.all_eq_true] at h
 exact⟨h.1.1,h.1.2,h.2⟩
theorem Qgf{l:List ByteArray}(k:Nat):(Qal (l.take k)).size<=(Qal l).size:=by
 have:Qal l=Qal (l.take k)++Qal (l.drop k):=by rw[<-Qdz,List.take_append_drop]
 rw[this,ByteArray.size_append];omega
theorem Qei{l:List ByteArray}{k:Nat}{T:ByteArray}(h:l[k]?=some T):Qal (l.take (k+1))=Qal (l.take k)++Qb2 T:=by
 obtain⟨hk,rfl⟩:=List.getElem?_eq_some_iff.1 h
 rw[List.take_succ_eq_append_getElem hk,Qdz]
 simp only[Qal]
 rw[append_nil]
theorem Ql6{l:List ByteArray}{k:Nat}{T:ByteArray}(h:l[k]?=some T)(hf:Qe5 T=false):Qb5 l=false:=by
 cases hb:Qb5 l
 · rfl
 · have:=(Qek hb).2.1 T (List.mem_of_getElem? h)
   rw[hf] at this;cases this
theorem Ql5{l:List ByteArray}{k:Nat}{T:ByteArray}(h:l[k]?=some T)(hf:300000<(Qal (l.take k)).size+(Qb2 T).size):Qb5 l=false:=by
 cases hb:Qb5 l
 · rfl
 · have h1:=(Qek hb).2.2
   have h2:=Qgf (l:=l) (k+1)
   rw[Qei h,ByteArray.size_append] at h2
   omega
theorem Ql4{l:List ByteArray}(h0:l.length<=600)(h1:∀ T∈l,Qe5 T=true)(h2:(Qal l).size<=300000):Qb5 l=true:=by
 simp only[Qb5,Bool.and_eq_true,decide_eq_true_eq,List.all_eq_true]
 exact⟨⟨h0,h1⟩,h2⟩
theorem Qo2{l:List ByteArray}(h:Qb5 l=true){k:Nat}(hk:k<=(Qal l).size) :
 ∃ m,m<=l.length/\unf ((Qal l).extract 0 k)=(l.take m,(Qal (l.take m)).size)/\(Qal (l.take m)).size<=k/\∀(hm:m<l.length),k<(Qal (l.take m)).size+(Qb2 l[m]).size:=by
 obtain⟨h0,h1,h2⟩:=Qek h
 obtain⟨m,a1,a2,a3,a4⟩:=Qwe ((Qal l).extract 0 k) l 600 0 k h1 h0 hk (Rest.start _)
 refine⟨m,a1,?_,a3,a4⟩
 rw[unf,if_pos (by rw[ByteArray.size_extract];omega),a2,Nat.zero_add]
theorem Qwc{l:List ByteArray}(h:Qb5 l=true):unf (Qal l)=(l,(Qal l).size):=by
 obtain⟨m,h1,h2,h3,h4⟩:=Qo2 h (Nat.le_refl _)
 rw[Qdk (Nat.le_refl _)] at h2
 have hm:m=l.length:=by
  rcases Nat.lt_or_ge m l.length with hlt|hge
  · have h5:=h4 hlt
    have h6:=Qgf (l:=l) (m+1)
    rw[Qei (List.getElem?_eq_getElem hlt),ByteArray.size_append] at h6
    omega
  · omega
 rw[hm,List.take_length] at h2
 exact h2
set_option maxHeartbeats 4000000
set_option maxRecDepth 100000
theorem Qkp(T:ByteArray)(w:World)(hT:T.size<=maxLen):Calls Tryz.prog 181 #[.string T] w fun e w'=>e=.returned (.tuple #[.string (Qax T),.bool (Qe5 T)])/\Ext w w':=by
 have HT:=hU hT
 unfold maxLen at hT
 unfold Qe5
 cases b1:inR T.size 1 1000
 · have E:=hU (show Qax T=⟨#[]⟩ by simp[Qax,b1])
   go_enter Tryz.func181,Tryz.ntmps181
   go_wp2_with (go_at_call 108;refine(Qba _ _ _ _).mono ?_;rintro e w' ⟨rfl,rfl⟩)
   go_ret2
   exact⟨by rw[E.out];rfl,Below.refl _ _⟩
 · have E:=hU (show Qax T=Qb2 T by simp[Qax,b1])
   obtain⟨h0,h1⟩:=Qa0 b1
   have d4:=Qk0 b1
   have l2:=Qby T.size 2
   have n1:¬ 9223372036854775807<(lowB T.size 2).size+(Qcy 4 4 T).size:=by omega
   have n2:¬ 9223372036854775807<(lowB T.size 2).size+(Qcy 4 4 T).size+T.size:=by omega
   have he:=Below.refl w.heap.size w
   go_enter Tryz.func181,Tryz.ntmps181
   go_wp2_with (go_at_call 108;refine(Qba _ _ _ _).mono ?_;rintro e w' ⟨rfl,rfl⟩)
   refine(Qf3 4 4 T _ HT.out).mono ?_
   rintro e w1 ⟨rfl,hx⟩
   replace he:Ext w w1:=Ext.next he hx
   go_wp2_with fail
   refine(Qhi T.size _ (by omega) (by omega)).mono ?_
   rintro e w2 ⟨rfl,hx⟩
   rw[<-Qi2]
   replace he:Ext w w2:=he.next hx
   go_wp2_with fail
   go_ret2
   exact⟨by rw[E.out];rfl,he⟩
theorem Qkv{T:ByteArray}(h:Qe5 T=true):Qax T=Qb2 T:=by
 unfold Qax;unfold Qe5 at h;rw[if_pos h]
structure FInv (l:List ByteArray) (k:Nat):Prop where
 le:k<=l.length
 fits:∀ T∈l.take k,Qe5 T=true
 small:(Qal (l.take k)).size<=300000
theorem FInv.start(l:List ByteArray):FInv l 0:=⟨Nat.zero_le _,by simp,by simp[Qal];exact Nat.zero_le _⟩
theorem FInv.next{l:List ByteArray}{k:Nat}{T:ByteArray}(h:FInv l k)(hT:l[k]?=some T)(hf:Qe5 T=true)(hs:(Qal (l.take k)).size+(Qb2 T).size<=300000):FInv l (k+1):=by
 obtain⟨hk,he⟩:=List.getElem?_eq_some_iff.1 hT
 refine⟨hk,fun x hx=>?_,by rw[Qei hT,ByteArray.size_append];exact hs⟩
 rw[List.take_succ_eq_append_getElem hk] at hx
 rcases List.mem_append.1 hx with hx|hx
 · exact h.fits x hx
 · obtain rfl:x=l[k]:=by simpa using hx
   rw[he];exact hf
theorem FInv.done{l:List ByteArray}(h:FInv l l.length)(hl:l.length<=600):Qb5 l=true:=by
 obtain⟨_,h1,h2⟩:=h
 rw[List.take_length] at h1 h2
 exact Ql4 hl h1 h2
theorem Qej{l:List ByteArray}(h:Qb5 l=false):Qai l=⟨#[]⟩:=by simp[Qai,h]
theorem Qds{l:List ByteArray}(h:Qb5 l=true):Qai l=Qal l:=by simp[Qai,h]
theorem Qku{l:List ByteArray}(h:¬ l.length<=600):Qb5 l=false:=by simp[Qb5,h]
theorem Qwo{l:List ByteArray}{w:World}{b off:Nat}{k:Nat}{d:ByteArray}(hc:∀ j u,(l.flatMap sone)[k*1+j]?=some u->w.cell? ⟨b,off+k*1+j,none⟩=some u)(hd:l[k]?=some d) :
 w.cell? ⟨b,off+k,none⟩=some (.string d):=by
 have:=hc 0 _ (Qa9 sone 1 Qbw l k 0 d hd (by omega))
 rwa [Nat.add_zero,Nat.mul_one] at this
theorem Qox(A:Option Addr)(c:Nat)(l:List ByteArray)(w:World)(hr:Qav w w.heap.size sone 1 A l)(hl:l.length<=1048576)(hs:∀ T∈l,T.size<=maxLen) :
 Calls Tryz.prog 106 #[.slice A l.length c] w fun e w'=>e=.returned (.tuple #[.string (Qai l),.bool (Qb5 l)])/\Ext w w':=by
 by_cases h6:l.length<=600
 case neg=>
  have E:=hU (Qku h6)
  go_enter Tryz.func106,Tryz.ntmps106
  go_wp2_with fail
  go_ret2
  exact⟨by rw[Qej E.out,E.out];rfl,Below.refl _ _⟩
 have HS:=hU hs;clear hs
 have hfresh:=hU (Lib.fresh_isBuilder 238 5 w)
 have He:=hU (Ext.new (Below.refl w.heap.size w) (.cells #[.pointer none,.slice none 0 0] 238))
 go_enter Tryz.func106,Tryz.ntmps106
 go_wp2_with fail
 obtain⟨b,hb⟩:∃ b,b=w.heap.size:=⟨_,rfl⟩
 rw[<-hb] at hfresh
 rw[<-hb]
 have hr':Qav w b sone 1 A l:=by rw[hb];exact hr
 have He2:∀ w',Ext w w'->Below b w w':=fun w' h=>by rw[hb];exact h
 have Hb:=hU hb
 have HA:=hU (He2 _ He.out)
 clear hb hr He2 He
 go_loopw [14] (fun x wr=>∃(k:Nat),FInv l k/\x=.int .i64 k/\Lib.IsBuilder 238 5 b b (bstr (Qal (l.take k))) wr/\Below b w wr/\b<=wr.heap.size) (fun x _=>l.length-(intOf x).toNat)
 case atStart=>exact⟨0,FInv.start l,rfl,hfresh.out,HA.out,by have:=Hb.out;simp;omega⟩
 case round=>
  obtain⟨k,hI,rfl,hB,he,hbs⟩:=hrel
  clear hfresh HA
  have KB:=hU hB
  have HI:=hU hI
  have hk:=hI.le
  have hsm:=hI.small
  clear hB hI
  by_cases hlt:k<l.length
  case neg=>
   obtain rfl:k=l.length:=by omega
   have E:=hU (HI.out.done h6)
   have hB:=KB.out
   rw[List.take_length] at hB
   have hdk:decide ((l.length:Int)<(l.length:Int))=false:=by simp
   clear KB
   go_wp2_with fail
   refine(Qhe b b _ _ hB hbs).mono ?_
   rintro e w2 ⟨rfl,e2⟩
   have he2:=he.trans e2
   clear hB e2 he
   go_wp2_with fail
   go_ret2
   exact⟨by rw[Qds E.out,E.out];rfl,by rw[Hb.out] at he2;exact he2⟩
  have hdk:decide ((k:Int)<(l.length:Int))=true:=by rw[decide_eq_true_eq];omega
  obtain⟨g,off,rfl,hg,hc⟩:=(hr'.below he).at_ (k:=k) hlt
  obtain⟨T,hT⟩:∃ T,T=l[k]:=⟨_,rfl⟩
  have hTl:l[k]?=some T:=by rw[hT];exact List.getElem?_eq_getElem hlt
  have c0:=Qwo hc hTl
  have HTl:=hU hTl
  have HTs:=hU (HS.out T (List.mem_of_getElem? hTl))
  clear hc hT hTl
  go_wp2_with fail
  refine(Qkp T _ HTs.out).mono ?_
  rintro e w1 ⟨rfl,e1⟩
  have hB1:=hU (Qkm KB.out e1)
  have he1:=he.trans (e1.mono hbs)
  have hbs1:b<=w1.heap.size:=Nat.le_trans hbs e1.size
  clear c0 KB he hbs e1
  cases hf:Qe5 T
  · have E:=hU (Ql6 HTl.out hf)
    go_wp2_with fail
    go_ret2
    exact⟨by rw[Qej E.out,E.out];rfl,by rw[Hb.out] at he1;exact he1⟩
  rw[Qkv hf]
  have hfs:=Qd9 hf
  obtain⟨t0,t1⟩:=Qkw hf
  have Hsn:=hU (Qei HTl.out)
  have hbl:=Qul (Qal (l.take k))
  have LB:=hU (Qo0 b b _ _ hB1.out)
  rw[hbl] at LB
  go_wp2_with fail
  refine LB.out.mono ?_
  rintro e w2 ⟨rfl,rfl⟩
  clear LB
  by_cases hfit:(Qal (l.take k)).size+(Qb2 T).size<=300000
  case neg=>
   have E:=hU (Ql5 HTl.out (by omega))
   go_wp2_with fail
   go_ret2
   exact⟨by rw[Qej E.out,E.out];rfl,by rw[Hb.out] at he1;exact he1⟩
  have HN:=hU (HI.out.next HTl.out hf hfit)
  have WS:=hU (Qio b b _ (Qb2 T) _ hB1.out (by rw[hbl];omega) hbs1)
  go_wp2_with fail
  refine WS.out.mono ?_
  rintro e w3 ⟨rfl,hB2,e2⟩
  have hB3:Lib.IsBuilder 238 5 b b (bstr (Qal (l.take (k+1)))) w3:=by rw[Hsn.out,Qoa];exact .inr hB2
  have KB:=hU hB3
  have he2:=he1.trans e2
  have hbs2:b<=w3.heap.size:=Nat.le_trans hbs1 e2.size
  clear hB1 hB2 hB3 he1 e2 hbs1 WS
  go_wp2_with fail
  go_roundw
  case rel=>exact⟨k+1,HN.out,by go_num,KB.out,he2,hbs2⟩
  case measure=>simp[intOf];omega
theorem Qop(A:Option Addr)(c:Nat)(l:List ByteArray)(w:World)(hr:Qav w w.heap.size sone 1 A l)(hl:l.length<=1048576)(hs:∀ T∈l,T.size<=maxLen) :
 Calls Tryz.prog 265 #[.slice A l.length c] w fun e w'=>e=.returned (.tuple #[.string (Qai l),.bool (Qb5 l)])/\Ext w w':=by
 by_cases h6:l.length<=600
 case neg=>
  have E:=hU (Qku h6)
  go_enter Tryz.func265,Tryz.ntmps265
  go_wp2_with fail
  go_ret2
  exact⟨by rw[Qej E.out,E.out];rfl,Below.refl _ _⟩
 have HS:=hU hs;clear hs
 have HR:=hU hr;clear hr
 obtain⟨i0,hinf,hz0,hz1,hz2⟩:=info_parts Qqm
 have H0:=hU (Qbd w 5 1)
 have He:=hU (Ext.new (Below.refl w.heap.size w) (.cells #[] 5))
 go_enter Tryz.func265,Tryz.ntmps265
 go_wp2_with fail
 obtain⟨B,hB⟩:∃ B,B=w.heap.size:=⟨_,rfl⟩
 rw[<-hB] at H0
 rw[<-hB]
 have Hb:w.heap.size<=B:=by omega
 have HB:=hU hB
 clear hB
 go_loopw [4,5] (fun v x wr=>∃ k:Nat,FInv l k/\x=.int .i64 k/\OwnB B wr v (Qal (l.take k)).size (Qc9 (Qal (l.take k)))/\(k=0->∃ a c,v=.slice (some a) 0 c)/\Ext w wr) (fun _ x _=>l.length-(intOf x).toNat)
 case atStart=>exact⟨0,FInv.start l,rfl,H0.out,fun _=>⟨_,_,rfl⟩,He.out⟩
 case round=>
  clear H0 He
  obtain⟨k,hI,rfl,hown,hz,he⟩:=hrel
  obtain⟨A',c',rfl,hnc⟩:=Qae hown
  have KO:=hU hown
  have HI:=hU hI
  have HZ:=hU hz
  have hk:=hI.le
  have hsm:=hI.small
  clear hown hI hz
  by_cases hlt:k<l.length
  case neg=>
   obtain rfl:k=l.length:=by omega
   have E:=hU (HI.out.done h6)
   have hown:=KO.out
   have hconv:(convert 22 9 (.slice A' (Qal (l.take l.length)).size c')).run Tryz.prog wr=.ok (.string (Qal l)) wr:=by
    rw[List.take_length] at hown ⊢
    rcases Nat.eq_zero_or_pos l.length with h0|h0
    · obtain⟨a,c2,ha⟩:=HZ.out h0
      obtain rfl:=List.eq_nil_of_length_eq_zero h0
      obtain⟨rfl,_,rfl⟩:A'=some a/\(Qal (List.take ([]:List ByteArray).length [])).size=0/\c'=c2:=by simpa using ha
      exact Qwj _ _ _
    · have hpos:0<(Qal l).size:=by
       cases l with
       | nil=>simp at h0
       | cons T l=>
         have h1:=Qd9 ((Qek E.out).2.1 T (by simp))
         rw[Qal,ByteArray.size_append];omega
      have:=Qix (n:=(Qal l).size) (by rw[Qf2]) hown hpos (Qpn _)
      rwa [Qkg] at this
   have hdk:decide ((l.length:Int)<(l.length:Int))=false:=by simp
   have hconv2:=hconv
   rw[List.take_length] at hconv2
   clear KO hown
   go_wp2_with fail
   go_ret2
   exact⟨by rw[Qds E.out,E.out];rfl,he⟩
  have hdk:decide ((k:Int)<(l.length:Int))=true:=by rw[decide_eq_true_eq];omega
  obtain⟨g,off,rfl,hg,hc⟩:=(HR.out.ext he).at_ (k:=k) hlt
  obtain⟨T,hT⟩:∃ T,T=l[k]:=⟨_,rfl⟩
  have hTl:l[k]?=some T:=by rw[hT];exact List.getElem?_eq_getElem hlt
  have c0:=Qwo hc hTl
  have HTl:=hU hTl
  have HTs:=hU (HS.out T (List.mem_of_getElem? hTl))
  clear hc hT hTl
  go_wp2_with fail
  refine(Qj7 T _ HTs.out).mono ?_
  rintro e w1 ⟨rfl,e1⟩
  have he1:=he.next e1
  have KO1:=hU (Qag KO.out e1)
  clear c0 KO he e1
  cases hf:inR T.size 1 1000
  · have E:=hU (Ql6 HTl.out (show Qe5 T=false from hf))
    go_wp2_with fail
    go_ret2
    exact⟨by rw[Qej E.out,E.out];rfl,he1⟩
  rw[Qkv (show Qe5 T=true from hf)]
  have hfs:=Qd9 (show Qe5 T=true from hf)
  obtain⟨t0,t1⟩:=Qkw (show Qe5 T=true from hf)
  have Hsn:=hU (Qei HTl.out)
  by_cases hfit:(Qal (l.take k)).size+(Qb2 T).size<=300000
  case neg=>
   have E:=hU (Ql5 HTl.out (by omega))
   have d3:decide (300000-((Qal (l.take k)).size:Int)<((Qb2 T).size:Int))=true:=by rw[decide_eq_true_eq];omega
   go_wp2_with fail
   go_ret2
   exact⟨by rw[Qej E.out,E.out];rfl,he1⟩
  have d3:decide (300000-((Qal (l.take k)).size:Int)<((Qb2 T).size:Int))=false:=by rw[decide_eq_false_iff_not];omega
  have HN:=hU (HI.out.next HTl.out (show Qe5 T=true from hf) hfit)
  obtain⟨cap,w2,hrun,e2,hcell⟩:=Qp0 (P:=Tryz.prog) (Qb2 T) Tryz.underlying9 Tryz.underlying22 Tryz.underlying5 w1
  have he2:=he1.next e2
  have KO2:=hU (Qag KO1.out e2)
  obtain⟨F,hF⟩:∃ F,F=Qb2 T:=⟨_,rfl⟩
  obtain⟨G,hG⟩:∃ G,G=Qal (l.take k):=⟨_,rfl⟩
  have Hn:Hid (Qec (Qc9 G)++Qec (Qc9 F)=Qec (Qc9 (Qal (l.take (k+1))))/\(Qal (l.take (k+1))).size=G.size+F.size):=hU (by rw[hF,hG,<-Ql7,<-Qkn,Hsn.out,ByteArray.size_append];exact⟨rfl,rfl⟩)
  rw[<-hF] at hrun hcell hfs hfit d3
  have hFs:F.size<=1006:=by omega
  rw[<-hG] at KO2 hsm hfit d3
  rw[<-hF]
  try rw[<-hG]
  have hnews:Hid (∀ j u,(Qec (Qc9 F))[j]?=some u->w2.cell? ((⟨w1.heap.size,0,none⟩:Addr).add j)=some u):=hU (by
   intro j u hu
   have hj:j<F.size:=by
    have:=(List.getElem?_eq_some_iff.1 hu).1
    rwa [Qk3,Qf2] at this
   rw[Qpo hj] at hu
   rw[Qhw,Nat.zero_add,hcell j hj,hu])
  have hB2:B<=w2.heap.size:=by have:=he2.size;have:=HB.out;omega
  clear hF hG he1 KO1 e2 hcell Hsn hfs
  go_wp2_with (at_builtin;refine wpList_append_own _ rfl _ _ 22 rfl B 5 i0 (.int .u8 0) 1 1 Tryz.underlying22 hinf hz0 hz1 hz2 rfl (by decide) _ _ _ rfl KO2.out ⟨w1.heap.size,0,none⟩ F.size cap (Qec (Qc9 F)) rfl ?c0 ?c1 ?c2 ?c3 ?c4 ?c5 ?_)
  case c0=>rw[Qk3,Qf2,Nat.mul_one]
  case c1=>exact hnews.out
  case c2=>exact Qsa _
  case c3=>unfold maxLen;omega
  case c4=>omega
  case c5=>exact hB2
  intro v' w3 hown' hgrow _
  have he3:=Ext.ownGrown he2 KO2.out hgrow Hb
  rw[Hn.out.1] at hown'
  have KO':=hU (show OwnB B w3 v' (Qal (l.take (k+1))).size (Qc9 (Qal (l.take (k+1)))) from by rw[Hn.out.2];exact hown')
  clear hown' hgrow KO2 he2 hnews hrun
  go_wp2_with fail
  go_roundw
  case rel=>exact⟨k+1,HN.out,by go_num,KO'.out,fun h=>absurd h (by omega),he3⟩
  case measure=>simp[intOf];omega

theorem Qo5(w:World)(x2 x3 x4:Array Value)(t2 t3 t4:TypeId) :
 Blk (((w.alloc (.cells x2 t2)).alloc (.cells x3 t3)).alloc (.cells x4 t4)) w.heap.size t2 x2/\Blk (((w.alloc (.cells x2 t2)).alloc (.cells x3 t3)).alloc (.cells x4 t4)) (w.heap.size+1) t3 x3/\Blk (((w.alloc (.cells x2 t2)).alloc (.cells x3 t3)).alloc (.cells x4 t4)) (w.heap.size+1+1) t4 x4/\Ext w (((w.alloc (.cells x2 t2)).alloc (.cells x3 t3)).alloc (.cells x4 t4)):=by
 obtain⟨h2,h3,he⟩:=Qfc w x2 x3 t2 t3
 have h4:((w.alloc (.cells x2 t2)).alloc (.cells x3 t3)).heap.size=w.heap.size+1+1:=by simp
 refine⟨h2.alloc _,h3.alloc _,?_,Ext.new he _⟩
 have:=Blk.new ((w.alloc (.cells x2 t2)).alloc (.cells x3 t3)) t4 x4;rwa [h4] at this
theorem Qu8(W:World):(Instr.makeSlice 29 (.int .i64 3) (.int .i64 3)).run Tryz.prog W=.ok (.slice (some ⟨W.heap.size,0,none⟩) 3 3) (W.alloc (.cells #[.string ⟨#[]⟩,.string ⟨#[]⟩,.string ⟨#[]⟩] 9)):=by
 obtain⟨i,hi,hz,hs,hb⟩:=info_parts Qd8
 have hr:=run_make (P:=Tryz.prog) W 29 9 i _ Tryz.underlying29 hi hz .i64 .i64 3 3 (by omega) (Int.le_refl _) (by rw[hb];decide) (by omega)
 rw[hs] at hr
 have e:madeCells (Value.string ⟨#[]⟩).cells (Int.toNat 3*1)=#[.string ⟨#[]⟩,.string ⟨#[]⟩,.string ⟨#[]⟩]:=by kernel_rfl
 rw[e] at hr
 exact hr
theorem Qtv(w:World):Calls Tryz.prog 104 #[] w fun e w'=>∃ q,e=.returned (.agg #[.slice (some ⟨q,0,none⟩) 3 3])/\w.heap.size<=q/\Blk w' q 9 #[.string ⟨#[]⟩,.string ⟨#[]⟩,.string ⟨#[]⟩]/\Ext w w':=by
 have HM:=Qu8
 obtain⟨B0,B1,he⟩:=Qcq w #[.slice (some ⟨w.heap.size+1,0,none⟩) 3 3] #[.string ⟨#[]⟩,.string ⟨#[]⟩,.string ⟨#[]⟩] 52 9
 have K0:=hU B0;have K1:=hU B1;have He:=hU he;clear B0 B1 he
 go_enter Tryz.func104,Tryz.ntmps104
 go_wp2_with fail
 exact Qdc rfl rfl K0.out Tryz.underlying52 rfl (by kernel_rfl) rfl ⟨_,rfl,by omega,K1.out,He.out⟩
end Go.Proofs.YtbnkjgcpjeedfaaGreat

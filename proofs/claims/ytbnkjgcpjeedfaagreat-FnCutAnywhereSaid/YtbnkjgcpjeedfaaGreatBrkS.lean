/-
  SpecG; SpecS; BrkS: No condition.
-/
import Derived.Test.YtbnkjgcpjeedfaaGreatSpecR
import Derived.Test.YtbnkjgcpjeedfaaGreatHeadsOks
import Derived.Test.YtbnkjgcpjeedfaaGreatSpFile
import Derived.Test.YtbnkjgcpjeedfaaGreatLeafI
import Derived.Test.YtbnkjgcpjeedfaaGreatRecs
import Derived.Test.YtbnkjgcpjeedfaaGreatReopen0
import Derived.Test.YtbnkjgcpjeedfaaGreatBrkV
namespace Go.Proofs.YtbnkjgcpjeedfaaGreat
set_option maxHeartbeats 4000000
set_option maxRecDepth 100000
set_option linter.unusedSimpArgs false
open Go.RowKit
set_option linter.unusedVariables false
def lenOf:Value->Nat
 | .slice _ n _=>n
 | _=>0
theorem Qrd(l:List ByteArray):∀ u∈l.flatMap sone,u.oneCell'=true:=by
 intro u hu
 obtain⟨x,_,hx⟩:=List.mem_flatMap.1 hu
 obtain rfl:u=.string x:=by simpa [sone] using hx
 rfl
theorem Ql8(wd:Int)(hwd:inR wd 1 32=true)(r:Qfq)(A:Option Addr)(c:Nat)(A':Option Addr)(c':Nat)(l:List ByteArray)(w:World)(hr:Qav w w.heap.size sone 1 A r.peaks)(hrl:Qav w w.heap.size sone 1 A' l)(hok:Qck wd r=true)(hls:∀ x∈l,WdT wd x)(hfit:(l.length:Int)<=512-r.size) :
 Calls Tryz.prog 226 #[.int .i64 wd,.agg #[.int .i64 r.size,.slice A r.peaks.length c],.slice A' l.length c'] w fun e w'=>∃ m v,e=.returned (.tuple #[.agg #[.int .i64 (r.size+l.length),v],.int .i64 m,.bool true])/\
  RowT w.heap.size w' v (Qcj (ndB wd) r.size.toNat r.peaks.reverse l).reverse/\Ext w w':=by
 obtain⟨i0,hi,hz0,hz1,hz2⟩:=info_parts Qd8
 have hb:=hok
 simp only[Qck,Bool.and_eq_true,decide_eq_true_eq,Qdy,List.all_eq_true,beq_iff_eq] at hb
 obtain⟨⟨hsz,hlen⟩,hhs,_⟩:=hb
 have hs2:=Qa0 hsz
 have hwd2:=Qa0 hwd
 obtain⟨N,hN⟩:∃ N:Nat,r.size=(N:Int):=⟨r.size.toNat,by omega⟩
 have hNt:r.size.toNat=N:=by omega
 have Hs:=hU (show ∀ x∈r.peaks.reverse,WdT wd x from fun x hx=>by have:=hhs x (by simpa using hx);unfold WdT;omega)
 have Hlen:=hU (show r.peaks.reverse.length=pc N by rw[List.length_reverse,hlen,hNt])
 have hpl:r.peaks.length<=512:=by have:=Qh9 r.size.toNat;omega
 have hll:l.length<=512:=by omega
 have HS:Qdy wd l=true:=by
  rw[Qdy,List.all_eq_true]
  intro x hx
  have:=hls x hx
  unfold WdT at this
  simp;omega
 have RO:=hU (fun(W:World) (hW:Qav W W.heap.size sone 1 A r.peaks)=>Qog wd r A c W hW (by omega))
 have LH:=hU (fun(W:World) (hW:Qav W W.heap.size sone 1 A' l)=>Qfx wd A' c' l W hW (by omega))
 rw[HS,hwd] at LH
 rw[hok] at RO
 obtain⟨Rv,hRv⟩:∃ Rv,Rv=r.peaks.reverse:=⟨_,rfl⟩
 have HRv:=hU (show r.peaks=Rv.reverse by rw[hRv,List.reverse_reverse])
 rw[<-hRv] at Hs Hlen
 rw[hNt,<-hRv]
 obtain⟨L,hL⟩:∃ L,L=r.peaks.length:=⟨_,rfl⟩
 rw[hN] at hfit RO
 rw[hN]
 rw[<-hL] at RO hpl
 rw[<-hL]
 have HL:=hU hL
 have K0:=hU (Blk.new w 31 #[.int .i64 (N:Int),.slice A L c])
 have hN5:N<=512:=by omega
 have HRL:=hU hrl;have HR:=hU hr;have HLS:=hU hls
 have SRC:Hid (∀ W:World,Ext w W->SrcL W (.slice A L c) L 1 (r.peaks.flatMap sone)):=hU (fun W hW=>by rw[hL];exact Qbb.src (hr.ext hW))
 clear hr hrl hls hok hsz hlen hhs hs2 hN hNt hL hRv HS
 have E1:=Ext.new (Below.refl w.heap.size w) (.cells #[.int .i64 (N:Int),.slice A L c] 31)
 have K1:=Blk.new (w.alloc (.cells #[.int .i64 (N:Int),.slice A L c] 31)) 31 #[.int .i64 0,.slice none 0 0]
 have K01:=K0.out.alloc (.cells #[.int .i64 0,.slice none 0 0] 31)
 have E2:=E1.new (.cells #[.int .i64 0,.slice none 0 0] 31)
 rw[World.size_alloc] at K1
 clear K0 E1
 have K0:=hU K01;have K1:=hU K1;have E2:=hU E2
 clear K01
 go_enter Tryz.func226,Tryz.ntmps226
 go_wp2_with fail
 obtain⟨g,hg⟩:∃ g,g=w.heap.size:=⟨_,rfl⟩
 have K0:=hU (show Blk _ g _ _ by rw[hg];exact K0.out);have K1:=hU (show Blk _ (g+1) _ _ by rw[hg];exact K1.out)
 rw[<-hg]
 have Hg:=hU hg
 clear hg
 generalize (w.alloc (.cells #[.int .i64 (N:Int),.slice A L c] 31)).alloc (.cells #[.int .i64 0,.slice none 0 0] 31)=w0 at *
 refine(RO.out _ (HR.out.ext E2.out)).mono ?_
 rintro e w1 ⟨rfl,h1⟩
 have he:=E2.out.next h1
 have k0:=K0.out.ext h1;have k1:=K1.out.ext h1
 clear h1 K0 K1 E2 RO
 obtain⟨r0,m0⟩:=k0.rules
 go_wp2_with fail
 refine(LH.out _ (HRL.out.ext he)).mono ?_
 rintro e w2 ⟨rfl,h1⟩
 replace he:=he.next h1
 replace k0:=k0.ext h1;replace k1:=k1.ext h1
 clear h1 r0 m0 LH
 obtain⟨r0,m0⟩:=k0.rules
 have d0:decide ((512:Int)-(N:Int)<(l.length:Int))=false:=decide_eq_false (by omega)
 have e9:IntKind.i64.wrap ((512:Int)-(N:Int))=512-(N:Int):=IntWalk.i64_in _ (by omega)
 have hw2:=he.size
 have hgw:=k0.lt
 go_wp2_with (at_builtin;refine Qbv rfl _ _ 29 rfl w.heap.size w2.heap.size 9 i0 _ 1 16 Tryz.underlying29 hi hz0 hz1 hz2 rfl (by decide) rfl (Blk.new w2 9 #[]) hw2 _ L (r.peaks.flatMap sone) rfl (SRC.out _ (he.new _)) (Qrd _) (by unfold maxLen;omega) (by omega) ?_)
 intro v3 w3 hown3 h3
 have h23:Ext w2 w3:=Ext.next (Ext.new (Below.refl w2.heap.size w2) _) h3
 replace he:=he.next h23
 replace k0:=k0.ext h23;replace k1:=k1.ext h23
 clear r0 m0 h3 h23
 have R3:RowT w.heap.size w3 v3 (Qcj (ndB wd) N Rv (l.take 0)).reverse:=RowT.of hown3 (by rw[HL.out,HRv.out];simp[Qkt]) (by rw[HRv.out];simp[Qkt])
 have R3:=hU R3;have K0:=hU k0;have K1:=hU k1;have HE:=hU he
 clear hown3 k0 k1 he hw2 hgw SRC HR
 go_wp2_with fail
 go_loopw [9,10,11] (fun v mk i wr=>∃(k:Nat) (mk':Int),k<=l.length/\i=.int .i64 (k:Int)/\mk=.int .i64 mk'/\RowT w.heap.size wr v (Qcj (ndB wd) N Rv (l.take k)).reverse/\Blk wr g 31 #[.int .i64 (N:Int),.slice A L c]/\Blk wr (g+1) 31 #[.int .i64 0,.slice none 0 0]/\Ext w wr) (fun _ _ i _=>l.length-(intOf i).toNat)
 case atStart=>exact⟨0,0,Nat.zero_le _,rfl,rfl,R3.out,K0.out,K1.out,HE.out⟩
 case round=>
  clear R3 K0 K1 HE
  obtain⟨k,mk',hk,rfl,rfl,hrow,k0,k1,he⟩:=hrel
  obtain⟨V,cv,rfl,hnc⟩:=Qae hrow
  have hgl:(Qcj (ndB wd) N Rv (l.take k)).length=pc (N+k):=by rw[Qg6 (ndB wd) _ _ _ Hlen.out,List.length_take,Nat.min_eq_left hk]
  have hgb:=Qh9 (N+k)
  have hrv:(Qcj (ndB wd) N Rv (l.take k)).reverse.length=pc (N+k):=by rw[List.length_reverse,hgl]
  have KO:=hU hrow
  obtain⟨r0,m0⟩:=k0.rules
  have K0:=hU k0;have K1:=hU k1
  clear hrow k0 k1
  by_cases hlt:k<l.length
  case neg=>
   obtain rfl:k=l.length:=by omega
   obtain⟨T,hT⟩:∃ T,T=(Qcj (ndB wd) N Rv (l.take l.length)).reverse:=⟨_,rfl⟩
   have HT:=hU (show T=(Qcj (ndB wd) N Rv l).reverse by rw[hT,List.take_length])
   rw[<-hT] at KO
   rw[<-hT]
   obtain⟨q1,f1⟩:=K1.out.rules
   have KB:=hU (K1.out.put 0 [.int .i64 ((N:Int)+(l.length:Int)),.slice V T.length cv] #[.int .i64 ((N:Int)+(l.length:Int)),.slice V T.length cv] (by simp) rfl)
   have hk5:Frm (fun b=>b=g+1) wr (wr.setCells (g+1) 0 [.int .i64 ((N:Int)+(l.length:Int)),.slice V T.length cv]):=Frm.setCells (X:=fun b=>b=g+1) (Frm.refl _ wr) (g:=g+1) (fun _=>rfl) _ _
   have RF:Hid (RowT w.heap.size (wr.setCells (g+1) 0 [.int .i64 ((N:Int)+(l.length:Int)),.slice V T.length cv]) (.slice V T.length cv) (Qcj (ndB wd) N Rv l).reverse):=hU (by rw[<-HT.out];exact hk5.own KO.out (fun b hb=>RowT.apart KO.out K1.out (by decide) b hb))
   have HX:=hU (Qaa (W:=w) (g:=g+1) (by have:=Hg.out;omega) [.int .i64 ((N:Int)+(l.length:Int)),.slice V T.length cv] 0 wr he)
   have e8:IntKind.i64.wrap ((N:Int)+(l.length:Int))=(N:Int)+(l.length:Int):=IntWalk.i64_in _ (by omega)
   clear hT hk5
   go_wp2_with fail
   exact Qh5 rfl rfl KB.out Tryz.underlying31 rfl (by kernel_rfl) rfl ⟨_,_,rfl,RF.out,HX.out⟩
  obtain⟨d,hd⟩:∃ d,l[k]?=some d:=⟨l[k],List.getElem?_eq_getElem hlt⟩
  obtain⟨b',off',rfl,hb',cd⟩:=Qdo (HRL.out.ext he) hd
  have hwl:WdT wd d:=HLS.out d (List.mem_of_getElem? hd)
  have HD:=hU hd;have HWL:=hU hwl
  have KO2:=hU (show wr.ownsRow w.heap.size 9 1 (.slice V (pc (N+k)) cv) (pc (N+k)) ((Qcj (ndB wd) N Rv (l.take k)).reverse.flatMap sone) by have:=KO.out;unfold RowT at this;rwa [hrv] at this)
  rw[hrv]
  have hnk:N+k<=512:=by omega
  have hpk:pc (N+k)<=512:=by omega
  have hgw:=K0.out.lt
  have hwr:=he.size
  clear hd hwl KO hrv hnc
  obtain⟨n0,hn0⟩:∃ n0,n0=pc (N+k):=⟨_,rfl⟩
  rw[<-hn0] at KO2 hpk hgl
  rw[<-hn0]
  have HN0:=hU hn0
  clear hn0 hgb
  go_wp2_with (at_builtin;refine Qap _ rfl _ _ 29 rfl w.heap.size 9 i0 _ 1 16 Tryz.underlying29 hi hz0 hz1 hz2 rfl (by decide) _ _ _ rfl (KO2.out.alloc _) ⟨wr.heap.size,0,none⟩ 1 1 [.string d] rfl rfl ?c1 ?c2 ?c3 ?c4 ?c5 ?_)
  case c1=>exact(Blk.new wr 9 #[.string d]).adds
  case c2=>intro u hu;simp at hu;subst hu;rfl
  case c3=>unfold maxLen;omega
  case c4=>omega
  case c5=>simp;omega
  intro v4 w4 hown4 hfrm4 hmv4
  have RT0:RowT w.heap.size wr (.slice V n0 cv) (Qcj (ndB wd) N Rv (l.take k)).reverse:=RowT.of KO2.out (by rw[List.length_reverse,hgl]) rfl
  have apt:=RowT.apart RT0 K0.out (by decide)
  have apt1:=RowT.apart RT0 K1.out (by decide)
  have he4:Ext w w4:=hfrm4.toExt (he.new _) (fun y hy e=>by have:=(RT0.lt _ e).1;omega)
  have k0:Blk w4 g 31 #[.int .i64 (N:Int),.slice A L c]:=hfrm4.blk (K0.out.alloc _) (fun e=>apt g e rfl)
  have k1:Blk w4 (g+1) 31 #[.int .i64 0,.slice none 0 0]:=hfrm4.blk (K1.out.alloc _) (fun e=>apt1 (g+1) e rfl)
  have R4:RowT w.heap.size w4 v4 (d :: Qcj (ndB wd) N Rv (l.take k)).reverse:=RowT.of hown4 (by simp[hgl]) (by simp[sone])
  have R4:=hU R4;have HE4:=hU he4
  clear hown4 hfrm4 hmv4 RT0 apt apt1 KO2 K0 K1 he he4 r0 m0 cd
  obtain⟨r0,m0⟩:=k0.rules
  have K0:=hU k0;have K1:=hU k1
  have e8:IntKind.i64.wrap ((N:Int)+(k:Int))=(N:Int)+(k:Int):=IntWalk.i64_in _ (by omega)
  have e9:IntKind.i64.wrap ((N:Int)+(k:Int)+1)=(N:Int)+(k:Int)+1:=IntWalk.i64_in _ (by omega)
  clear k0 k1
  go_wp2_with fail
  obtain⟨Fn,hFn⟩:∃ Fn,Fn=Qd1 (ndB wd) (N+k) (Qcj (ndB wd) N Rv (l.take k)) d:=⟨_,rfl⟩
  have hs0:(Qcj (ndB wd) N Rv (l.take k)).length=pc (N+k):=by rw[hgl,HN0.out]
  have hFl:Fn.length=pc (N+k+1):=by rw[hFn];exact Qn7 _ _ _ _ hs0
  have FF:=hU hFn;have FL:=hU hFl;have S0:=hU hs0
  have HX:=hU (show Qcj (ndB wd) N Rv (l.take (k+1))=Fn by
   obtain⟨hk1,hk2⟩:=List.getElem?_eq_some_iff.1 HD.out
   rw[List.take_succ_eq_append_getElem hlt,Qih,List.length_take,Nat.min_eq_left hk,Qi4,Qkt,hk2,hFn])
  clear hFn hFl hs0
  go_loopw [9,10] (fun v mk wr=>∃(mk':Int) (m:Nat) (p:ByteArray) (t:List ByteArray),mk=.int .i64 mk'/\Qd1 (ndB wd) m t p=Fn/\t.length=pc m/\(∀ x∈t,WdT wd x)/\WdT wd p/\m<=N+k/\RowT w.heap.size wr v (p :: t).reverse/\Blk wr g 31 #[.int .i64 (N:Int),.slice A L c]/\Blk wr (g+1) 31 #[.int .i64 0,.slice none 0 0]/\Ext w wr) (fun v _ _=>lenOf v)
  case atStart=>exact⟨_,N+k,d,_,rfl,FF.out.symm,S0.out,Qg7 (Qkh hwd) _ _ _ Hs.out (fun x hx=>HLS.out x (List.mem_of_mem_take hx)),HWL.out,Nat.le_refl _,R4.out,K0.out,K1.out,HE4.out⟩
  case round=>
   clear R4 K0 K1 HE4 r0 m0
   obtain⟨mk2,m,p,t,rfl,hF,htl,ht,hp,hmn,hrow,k0,k1,he⟩:=hrel
   obtain⟨V2,cv2,rfl,hnc2⟩:=Qae hrow
   have htl2:=Qh9 m
   obtain⟨L2,hL2⟩:∃ L2,L2=t.length+1:=⟨_,rfl⟩
   have hrl:(p :: t).reverse.length=L2:=by rw[hL2];simp
   rw[hrl] at hnc2 ⊢
   obtain⟨M,hM⟩:∃ M,M=pkN ((N:Int)+(k:Int)+1):=⟨_,rfl⟩
   have hMl:M=Fn.length:=by
    rw[hM,FL.out,show((N:Int)+(k:Int)+1)=((N+k+1:Nat):Int) by omega]
    exact pkN_of (by omega)
   have hFm:Fn.length=pc (m+1):=by rw[<-hF];exact Qn7 _ _ _ _ htl
   have PK:=hU (fun W=>Qoj ((N:Int)+(k:Int)+1) W)
   rw[<-hM] at PK
   have KR:=hU hrow;have K0:=hU k0;have K1:=hU k1;have HF:=hU hF;have HT:=hU ht;have HP:=hU hp
   have HL2:=hU hL2;have HRL:=hU hrl
   have hL2b:L2<=513:=by omega
   have hM5:M<=512:=by rw[hM];exact pkN_le _
   clear hrow k0 k1 hF ht hp hM hrl
   rcases Nat.mod_two_eq_zero_or_one m with h2|h2
   · have dd:decide ((M:Int)<(L2:Int))=false:=decide_eq_false (by
      have:=Qqa h2
      omega)
     have dd3:¬ M<L2:=by
      have:=Qqa h2
      omega
     have dd2:decide (M<L2)=false:=decide_eq_false dd3
     have EQ:=hU (show(p :: t).reverse=(Qcj (ndB wd) N Rv (l.take (k+1))).reverse by rw[HX.out,<-HF.out,Qe6 _ h2])
     clear hMl hFm htl hL2 h2
     go_wp2_with fail
     refine(PK.out _).mono ?_
     rintro e w6 ⟨Ap,cp,rfl,h1⟩
     replace he:=he.next h1
     have k0:=K0.out.ext h1;have k1:=K1.out.ext h1
     have R6:Hid (RowT w.heap.size w6 (.slice V2 L2 cv2) (Qcj (ndB wd) N Rv (l.take (k+1))).reverse):=hU (by
      rw[<-EQ.out]
      have:=KR.out.ext h1
      rwa [HRL.out] at this)
     have K0:=hU k0;have K1:=hU k1
     clear h1 k0 k1 EQ HRL
     go_wp2_with fail
     go_roundw
     case rel=>exact⟨k+1,_,by omega,by go_num,rfl,R6.out,K0.out,K1.out,he⟩
     case measure=>simp[intOf];omega
   have dd:decide ((M:Int)<(L2:Int))=true:=decide_eq_true (by
    have:=Qxh.2 h2
    omega)
   have dd3:M<L2:=by
    have:=Qxh.2 h2
    omega
   have dd2:decide (M<L2)=true:=decide_eq_true dd3
   cases t with
   | nil=>rw[(Qpf h2).2] at htl;simp at htl
   | cons q r2=>
     have hrl2:r2.length=pc (m / 2):=by rw[(Qpf h2).2] at htl;simpa using htl
     have HF2:=hU (show Qd1 (ndB wd) (m / 2) r2 (ndB wd q p)=Fn by rw[<-Qhb _ h2];exact HF.out)
     obtain⟨_,_,hvv,_,hcm2,hcl⟩:=KR.out.cells
     cases hvv
     obtain⟨b2,off2,hV2,hb2,hcl2⟩:=hcl (by simp)
     have cq:=hcl2 r2.length q (by simp)
     have cp1:=hcl2 (r2.length+1) p (by simp)
     clear hcl hcl2
     subst hV2
     obtain⟨j1,hj1⟩:∃ j1,j1=r2.length+1:=⟨_,rfl⟩
     rw[<-hj1] at cp1
     obtain⟨j0,hj0⟩:∃ j0,j0=r2.length:=⟨_,rfl⟩
     rw[<-hj0] at cq
     have hLj:L2=j0+2:=by simp at hL2;omega
     have wq:WdT wd q:=HT.out q (by simp)
     have NH:Hid (∀ W:World,Calls Tryz.prog 264 #[.int .i64 wd,.string q,.string p] W fun e w'=>e=.returned (.tuple #[.string (Qor wd (q++p)),.bool true])/\Ext W w'):=hU (fun W=>Qg1 wd q p W hwd wq HP.out)
     have HJ:=hU (Qkh hwd q p wq HP.out)
     obtain⟨J,hJ⟩:∃ J,J=Qor wd (q++p):=⟨_,rfl⟩
     rw[<-hJ] at NH
     have HJJ:=hU (show ndB wd q p=J from hJ.symm)
     have a1:(L2:Int)-2=(j0:Int):=by omega
     have a2:(L2:Int)-1=(j1:Int):=by omega
     have a3:IntKind.i64.wrap (j0:Int)=(j0:Int):=IntWalk.i64_in _ (by omega)
     have a4:IntKind.i64.wrap (j1:Int)=(j1:Int):=IntWalk.i64_in _ (by omega)
     have hj0l:j0<L2:=by omega
     have hj1l:j1<L2:=by omega
     have J0:=hU hj0
     have HLj:=hU hLj
     clear hLj
     have HRL2:=hU hrl2
     clear htl hrl2 hj1 hj0 wq hJ hL2 hMl hFm h2
     go_wp2_with fail
     refine(PK.out _).mono ?_
     rintro e w6 ⟨Ap,cp,rfl,h1⟩
     have e6:=h1.cell (p:=⟨b2,off2+j0,none⟩) hb2
     have e7:=h1.cell (p:=⟨b2,off2+j1,none⟩) hb2
     rw[cq] at e6
     rw[cp1] at e7
     replace he:=he.next h1
     replace K0:=hU (K0.out.ext h1);replace K1:=hU (K1.out.ext h1);replace KR:=hU (KR.out.ext h1)
     have hsz6:=h1.size
     clear h1 cq cp1
     go_wp2_with fail
     have KR7:Hid (RowT w.heap.size w6.drew (.slice (some ⟨b2,off2,none⟩) L2 cv2) (p :: q :: r2).reverse):=hU (by rw[<-HRL.out];exact KR.out)
     clear KR
     refine wp_region_held_drew (S:=fun w'=>w'.cell? ⟨b2,off2+j0,none⟩=some (.string q)/\w'.cell? ⟨b2,off2+j1,none⟩=some (.string p)/\b2<w'.heap.size/\Blk w' g 31 #[.int .i64 (N:Int),.slice A L c]/\Blk w' (g+1) 31 #[.int .i64 0,.slice none 0 0]/\RowT w.heap.size w' (.slice (some ⟨b2,off2,none⟩) L2 cv2) (p :: q :: r2).reverse/\Ext w w') (by kernel_rfl) ⟨e6,e7,Nat.lt_of_lt_of_le hb2 hsz6,K0.out.drew,K1.out.drew,KR7.out,he.drew⟩ (fun hH=>?_)
     clear K0 K1 KR7 he e6 e7
     refine Qah 0 (.int .i64 wd) (some 66) rfl rfl (by kernel_rfl) (Or.inl ⟨by rfl,?ygr1⟩) hH ?rgr1
     case ygr1=>intro w' hS';obtain⟨s0,s1,s2⟩:=hS';go_simp;try with_reducible rfl
     try simp only[zA]
     refine Qah 1 (.slice (some ⟨b2,off2,none⟩) L2 cv2) (some 67) rfl rfl (by kernel_rfl) (Or.inl ⟨by rfl,?ygr2⟩) hH ?rgr2
     case ygr2=>intro w' hS';obtain⟨s0,s1,s2⟩:=hS';go_simp;try with_reducible rfl
     try simp only[zA]
     refine Qah 2 (.int .i64 (L2:Int)) (some 68) rfl rfl (by kernel_rfl) (Or.inl ⟨by rfl,?ygr3⟩) hH ?rgr3
     case ygr3=>intro w' hS';obtain⟨s0,s1,s2⟩:=hS';go_simp;try with_reducible rfl
     try simp only[zA]
     refine Qah 3 (.int .i64 (j0:Int)) (some 69) rfl rfl (by kernel_rfl) (Or.inl ⟨by rfl,?ygr4⟩) hH ?rgr4
     case ygr4=>intro w' hS';obtain⟨s0,s1,s2⟩:=hS';go_simp;try with_reducible rfl
     try simp only[zA]
     refine tk 4 (.pointer (some ⟨b2,off2+j0,none⟩)) (some 70) hH ?_
     try simp only[zA]
     refine Qah 5 (.string q) (some 71) rfl rfl (by kernel_rfl) (Or.inl ⟨by rfl,?ygr6⟩) hH ?rgr6
     case ygr6=>intro w' hS';obtain⟨s0,s1,s2⟩:=hS';go_simp;try with_reducible rfl
     try simp only[zA]
     refine Qah 6 (.slice (some ⟨b2,off2,none⟩) L2 cv2) (some 72) rfl rfl (by kernel_rfl) (Or.inl ⟨by rfl,?ygr7⟩) hH ?rgr7
     case ygr7=>intro w' hS';obtain⟨s0,s1,s2⟩:=hS';go_simp;try with_reducible rfl
     try simp only[zA]
     refine Qah 7 (.int .i64 (L2:Int)) (some 73) rfl rfl (by kernel_rfl) (Or.inl ⟨by rfl,?ygr8⟩) hH ?rgr8
     case ygr8=>intro w' hS';obtain⟨s0,s1,s2⟩:=hS';go_simp;try with_reducible rfl
     try simp only[zA]
     refine Qah 8 (.int .i64 (j1:Int)) (some 74) rfl rfl (by kernel_rfl) (Or.inl ⟨by rfl,?ygr9⟩) hH ?rgr9
     case ygr9=>intro w' hS';obtain⟨s0,s1,s2⟩:=hS';go_simp;try with_reducible rfl
     try simp only[zA]
     refine tk 9 (.pointer (some ⟨b2,off2+j1,none⟩)) (some 75) hH ?_
     try simp only[zA]
     refine Qah 10 (.string p) (some 76) rfl rfl (by kernel_rfl) (Or.inl ⟨by rfl,?ygr11⟩) hH ?rgr11
     case ygr11=>intro w' hS';obtain⟨s0,s1,s2⟩:=hS';go_simp;try with_reducible rfl
     try simp only[zA]
     refine oneH 11 (oi:=_) (some 77) (by kernel_rfl) rfl rfl rfl (fun K' hK=>?_)
     refine⟨?_⟩
     rw[if_pos (by rfl)]
     go_simp
     refine(NH.out _).mono ?_
     rintro e w8 ⟨rfl,h1⟩
     refine hK.out _ _ ⟨_,rfl⟩ (⟨(h1.cell (p:=⟨b2,off2+j0,none⟩) hH.2.2.1).trans hH.1,(h1.cell (p:=⟨b2,off2+j1,none⟩) hH.2.2.1).trans hH.2.1,Nat.lt_of_lt_of_le hH.2.2.1 h1.size,hH.2.2.2.1.ext h1,hH.2.2.2.2.1.ext h1,RowT.ext hH.2.2.2.2.2.1 h1,hH.2.2.2.2.2.2.next h1⟩) (fun hH2=>?_)
     clear hK K' hH h1
     have hH:=hH2
     clear hH2
     try simp only[zB]
     refine Qah 12 (.tuple #[.string J,.bool true]) (some 65) rfl rfl (by kernel_rfl) (Or.inl ⟨by rfl,?ygr12⟩) hH ?rgr12
     case ygr12=>intro w' hS';obtain⟨s0,s1,s2⟩:=hS';go_simp;try with_reducible rfl
     try simp only[zA]
     refine Qah 13 (.string J) (some 78) rfl rfl (by kernel_rfl) (Or.inl ⟨by rfl,?ygr13⟩) hH ?rgr13
     case ygr13=>intro w' hS';obtain⟨s0,s1,s2⟩:=hS';go_simp;try with_reducible rfl
     try simp only[zA]
     refine tk 14 (.bool true) (some 79) hH ?_
     try simp only[zA]
     refine Qah 15 (.string J) (some 14) rfl rfl (by kernel_rfl) (Or.inl ⟨by rfl,?ygr15⟩) hH ?rgr15
     case ygr15=>intro w' hS';obtain⟨s0,s1,s2⟩:=hS';go_simp;try with_reducible rfl
     try simp only[zA]
     refine tk 16 (.bool true) (some 15) hH ?_
     try simp only[zA]
     obtain⟨_,_,_,k0,k1,kr,he8⟩:=hH
     have K0:=hU k0;have K1:=hU k1;have KR7:=hU kr
     have hw8:=he8.size
     clear k0 k1 kr
     refine wpAnyH_done (by kernel_rfl) ?_ _
     have SRC2:∀ w8:World,RowT w.heap.size w8 (.slice (some ⟨b2,off2,none⟩) L2 cv2) (p :: q :: r2).reverse->SrcL (w8.alloc (.cells #[] 9)) (.slice (some ⟨b2,off2,none⟩) j0 cv2) j0 1 (r2.reverse.flatMap sone):=fun w8 h1=>by
      unfold RowT at h1
      rw[HRL.out] at h1
      have h2:=Ql1 h1 (m:=j0) (by have:=HLj.out;omega)
      rw[Nat.mul_one] at h2
      have h3:((p :: q :: r2).reverse.flatMap sone).take j0=r2.reverse.flatMap sone:=by
       rw[List.reverse_cons,List.reverse_cons,List.append_assoc,List.flatMap_append,List.take_append_of_le_length (by rw[Qes sone 1 Qbw,List.length_reverse,J0.out];omega),List.take_of_length_le (by rw[Qes sone 1 Qbw,List.length_reverse,J0.out];omega)]
      rw[h3] at h2
      exact srcL_own (h2.alloc _)
     replace SRC2:=hU (SRC2 _ KR7.out)
     have hj0c:j0<=cv2:=by omega
     have hcv9:cv2<=9223372036854775807:=by unfold maxLen at hcm2;omega
     go_wp2_with (at_builtin;refine Qbv rfl _ _ 29 rfl w.heap.size w8.heap.size 9 i0 _ 1 16 Tryz.underlying29 hi hz0 hz1 hz2 rfl (by decide) rfl (Blk.new w8 9 #[]) hw8 _ j0 (r2.reverse.flatMap sone) rfl SRC2.out (Qrd _) (by unfold maxLen;omega) (by omega) ?_)
     intro v9 w9 hown9 h9
     have h89:Ext w8 w9:=Ext.next (Ext.new (Below.refl w8.heap.size w8) _) h9
     replace K0:=hU (K0.out.ext h89);replace K1:=hU (K1.out.ext h89)
     have he9:=he8.next h89
     have hw9:=he9.size
     have KO9:=hU hown9
     clear h9 h89 he8 hw8 hown9 SRC2 KR7
     go_wp2_with (at_builtin;refine Qap _ rfl _ _ 29 rfl w.heap.size 9 i0 _ 1 16 Tryz.underlying29 hi hz0 hz1 hz2 rfl (by decide) _ _ _ rfl (KO9.out.alloc _) ⟨w9.heap.size,0,none⟩ 1 1 [.string J] rfl rfl ?d1 ?d2 ?d3 ?d4 ?d5 ?_)
     case d1=>exact(Blk.new w9 9 #[.string J]).adds
     case d2=>intro u hu;simp at hu;subst hu;rfl
     case d3=>unfold maxLen;omega
     case d4=>omega
     case d5=>simp;omega
     intro v5 w5 hown5 hfrm5 hmv5
     have RT0:RowT w.heap.size w9 v9 r2.reverse:=RowT.of KO9.out (by rw[List.length_reverse,J0.out]) rfl
     have apt:=RowT.apart RT0 K0.out (by decide)
     have apt1:=RowT.apart RT0 K1.out (by decide)
     have he5:Ext w w5:=hfrm5.toExt (he9.new _) (fun y hy e=>by have:=(RT0.lt _ e).1;omega)
     have k0:Blk w5 g 31 #[.int .i64 (N:Int),.slice A L c]:=hfrm5.blk (K0.out.alloc _) (fun e=>apt g e rfl)
     have k1:Blk w5 (g+1) 31 #[.int .i64 0,.slice none 0 0]:=hfrm5.blk (K1.out.alloc _) (fun e=>apt1 (g+1) e rfl)
     have R5:RowT w.heap.size w5 v5 (J :: r2).reverse:=RowT.of hown5 (by simp[J0.out]) (by simp[sone])
     have R5:=hU R5;have HE5:=hU he5
     have K0:=hU k0;have K1:=hU k1
     clear hown5 hfrm5 hmv5 RT0 apt apt1 KO9 he9 he5 k0 k1 hw9
     obtain⟨A5,c5,hv5,hnc5⟩:=Qae R5.out
     go_wp2_with fail
     go_roundw
     case rel=>exact⟨_,m / 2,J,r2,rfl,by rw[<-HJJ.out];exact HF2.out,HRL2.out,fun x hx=>HT.out x (by simp[hx]),by rw[<-HJJ.out];exact HJ.out,by omega,R5.out,K0.out,K1.out,HE5.out⟩
     case measure=>have:=HLj.out;have:=J0.out;simp[lenOf,hv5];omega
theorem Qvy(wd:Int)(s:Qlb)(A1:Option Addr)(c1:Nat)(A2:Option Addr)(c2:Nat)(w:World)(h1:Qav w w.heap.size sone 1 A1 s.leaves.peaks)(h2:Qav w w.heap.size sone 1 A2 s.taken.peaks)(l1:s.leaves.peaks.length<=1048576)(l2:s.taken.peaks.length<=1048576) :
 Calls Tryz.prog 224 #[.int .i64 wd,.agg (Qdw s A1 c1 A2 c2).toArray] w fun e w'=>e=.returned (.bool (Qh2 wd s))/\Ext w w':=by
 have K0:=hU (Blk.new w 35 (Qdw s A1 c1 A2 c2).toArray)
 have He:=hU (Ext.new (Below.refl w.heap.size w) (.cells (Qdw s A1 c1 A2 c2).toArray 35))
 have C1:=hU (fun(W:World) (hW:Ext w W)=>Qf0 wd s.leaves A1 c1 W (h1.ext hW) l1)
 have C2:=hU (fun(W:World) (hW:Ext w W)=>Qf0 wd s.taken A2 c2 W (h2.ext hW) l2)
 obtain⟨fin,hfin⟩:∃ fin,fin=Qh2 wd s:=⟨_,rfl⟩
 rw[<-hfin]
 have F:=hU (show fin=(Qck wd s.leaves&&Qck wd s.taken&&Qbc wd s.head&&(s.head.size==s.leaves.size)&&(s.head.root.toList==(Qkb wd s.leaves).toList)&&(s.head.taken==s.taken.size)&&(s.head.takenRoot.toList==(Qkb wd s.taken).toList)) from hfin)
 clear hfin h1 h2
 obtain⟨z1,hz1⟩:∃ z1,z1=Qck wd s.leaves:=⟨_,rfl⟩
 obtain⟨z2,hz2⟩:∃ z2,z2=Qck wd s.taken:=⟨_,rfl⟩
 obtain⟨t1,ht1⟩:∃ t1,t1=Qkb wd s.leaves:=⟨_,rfl⟩
 obtain⟨t2,ht2⟩:∃ t2,t2=Qkb wd s.taken:=⟨_,rfl⟩
 rw[<-hz1,<-ht1] at C1 F
 rw[<-hz2,<-ht2] at C2 F
 obtain⟨x1,hx1⟩:∃ x1,x1=(if z1 then t1 else⟨#[]⟩):=⟨_,rfl⟩
 obtain⟨x2,hx2⟩:∃ x2,x2=(if z2 then t2 else⟨#[]⟩):=⟨_,rfl⟩
 rw[<-hx1] at C1
 rw[<-hx2] at C2
 have X1:=hU hx1;have X2:=hU hx2
 clear hz1 hz2 ht1 ht2 hx1 hx2
 simp only[Qdw] at K0 He ⊢
 obtain⟨r0,m0⟩:=K0.out.rules
 go_enter Tryz.func224,Tryz.ntmps224
 go_wp2_with fail
 obtain⟨g,hg⟩:∃ g,g=w.heap.size:=⟨_,rfl⟩
 rw[<-hg] at K0
 rw[<-hg]
 clear r0 m0 hg
 refine(C1.out _ He.out).mono ?_
 rintro e w1 ⟨m1,rfl,hx⟩
 have he:=He.out.next hx
 have k0:=K0.out.ext hx
 clear hx K0 He
 obtain⟨r0,m0⟩:=k0.rules
 go_wp2_with fail
 refine(C2.out _ he).mono ?_
 rintro e w2 ⟨m2,rfl,hx⟩
 replace he:=he.next hx
 replace k0:=k0.ext hx
 clear hx r0 m0 C1 C2
 obtain⟨r0,m0⟩:=k0.rules
 go_upto_region 3 with fail
 cases z1
 · have E:=hU (show fin=false by rw[F.out];rfl)
   go_wp2_with fail
   go_ret
   exact⟨Qam E.out.symm,he⟩
 cases z2
 · have E:=hU (show fin=false by rw[F.out];simp)
   go_wp2_with fail
   go_ret
   exact⟨Qam E.out.symm,he⟩
 have Y1:=hU (show x1=t1 from X1.out);have Y2:=hU (show x2=t2 from X2.out)
 rw[<-Y1.out,<-Y2.out] at F
 clear X1 X2 Y1 Y2
 go_wp2_with fail
 refine(Qgt wd s.head _).mono ?_
 rintro e w3 ⟨rfl,hx⟩
 replace he:=he.next hx
 replace k0:=k0.ext hx
 clear hx r0 m0
 obtain⟨r0,m0⟩:=k0.rules
 obtain⟨z3,hz3⟩:∃ z3,z3=Qbc wd s.head:=⟨_,rfl⟩
 rw[<-hz3] at F
 rw[<-hz3]
 clear hz3
 cases z3
 · have E:=hU (show fin=false by rw[F.out];simp)
   go_wp2_with fail
   go_ret
   exact⟨Qam E.out.symm,he⟩
 by_cases p4:s.head.size=s.leaves.size
 case neg=>
  have b4:(s.head.size==s.leaves.size)=false:=beq_false_of_ne p4
  have E:=hU (show fin=false by rw[F.out,b4];simp)
  go_wp2_with fail
  go_ret
  exact⟨Qam E.out.symm,he⟩
 have b4:(s.head.size==s.leaves.size)=true:=beq_iff_eq.2 p4
 rw[b4] at F
 clear p4
 cases b5:(s.head.root.toList==x1.toList)
 · have E:=hU (show fin=false by rw[F.out,b5];simp)
   go_wp2_with fail
   go_ret
   exact⟨Qam E.out.symm,he⟩
 rw[b5] at F
 by_cases p6:s.head.taken=s.taken.size
 case neg=>
  have b6:(s.head.taken==s.taken.size)=false:=beq_false_of_ne p6
  have E:=hU (show fin=false by rw[F.out,b6];simp)
  go_wp2_with fail
  go_ret
  exact⟨Qam E.out.symm,he⟩
 have b6:(s.head.taken==s.taken.size)=true:=beq_iff_eq.2 p6
 rw[b6] at F
 clear p6
 have E:=hU (show fin=(s.head.takenRoot.toList==x2.toList) by rw[F.out];simp)
 go_wp2_with fail
 go_ret
 exact⟨Qam E.out.symm,he⟩
set_option maxHeartbeats 2000000
theorem run_pre{P:Program}{t:TypeId}(A:Option Addr)(len c m size:Nat)(ht:P.underlying t=some (.slice (P.elem t)))(hs:∀ W:World,(sizeOf (P.elem t)).run P W=.ok size W)(hm:m<=c){x:Int}(hx:x=(m:Int))(W:World) :
 (Instr.slice t (.slice A len c) none (some (.int .i64 x)) none).run P W=.ok (.slice A m c) W:=by
 subst hx
 rw[run_slice_h (P:=P) W t A len c ht .i64 (m:Int) (by omega) (by omega),hs]
 simp[Result.andThen,sliced]
 intro _
 cases A with
 | none=>rfl
 | some a=>simp[Addr.add]
theorem Qng(cs:List Value)(A:Option Addr)(c:Nat)(l:List Qak)(w:World)(hl13:cs.length=13)(hc3:cs[3]?=some (.slice A l.length c))(hr:Qav w w.heap.size Qak.cells 5 A l)(h0:0<l.length)(hl:l.length<=1048576) :
 Calls Tryz.prog 123 #[.agg cs.toArray] w fun e w'=>e=.returned (.agg #[.int .i64 (Qaw l).number,.int .i64 (Qaw l).size,.string (Qaw l).root,.int .i64 (Qaw l).taken,.string (Qaw l).takenRoot])/\Ext w w':=by
 obtain⟨h,hh⟩:∃ h,h=Qaw l:=⟨_,rfl⟩
 have hl1:=Qgc h0
 rw[<-hh] at hl1
 rw[<-hh]
 obtain⟨b,off,rfl,hb,hc⟩:=Qbb.at_ hr (k:=l.length-1) (by omega)
 obtain⟨k,hk⟩:∃ k,k=l.length-1:=⟨_,rfl⟩
 obtain⟨L,hL⟩:∃ L,L=l.length:=⟨_,rfl⟩
 have c0:=hc 0 _ (Qa9 _ 5 Qak.cells_length l _ 0 h hl1 (by omega))
 have c1:=hc 1 _ (Qa9 _ 5 Qak.cells_length l _ 1 h hl1 (by omega))
 have c2:=hc 2 _ (Qa9 _ 5 Qak.cells_length l _ 2 h hl1 (by omega))
 have c3:=hc 3 _ (Qa9 _ 5 Qak.cells_length l _ 3 h hl1 (by omega))
 have c4:=hc 4 _ (Qa9 _ 5 Qak.cells_length l _ 4 h hl1 (by omega))
 rw[Nat.add_zero] at c0
 rw[<-hk] at c0 c1 c2 c3 c4
 rw[<-hL] at hc3 h0 hl hk
 have e1:(L:Int)-1=(k:Int):=by omega
 have e2:IntKind.i64.wrap (k:Int)=(k:Int):=IntWalk.i64_in _ (by omega)
 have hkL:k<L:=by omega
 clear hc hl1 hk hL hr hh h0
 have B0:=Blk.new w 37 cs.toArray
 have E0:=Ext.new (Below.refl w.heap.size w) (.cells cs.toArray 37)
 obtain⟨w0,hw0⟩:∃ w0,w0=w.alloc (.cells cs.toArray 37):=⟨_,rfl⟩
 rw[<-hw0] at B0 E0
 have K0:=Blk.new w0 33 #[.int .i64 0,.int .i64 0,.string ⟨#[]⟩,.int .i64 0,.string ⟨#[]⟩]
 have E1:=E0.new (.cells #[.int .i64 0,.int .i64 0,.string ⟨#[]⟩,.int .i64 0,.string ⟨#[]⟩] 33)
 have B1:=B0.alloc (.cells #[.int .i64 0,.int .i64 0,.string ⟨#[]⟩,.int .i64 0,.string ⟨#[]⟩] 33)
 have hs0:w0.heap.size=w.heap.size+1:=by rw[hw0];simp
 have x3:(w0.alloc (.cells #[.int .i64 0,.int .i64 0,.string ⟨#[]⟩,.int .i64 0,.string ⟨#[]⟩] 33)).cell? ⟨w.heap.size,3,none⟩=some (.slice (some ⟨b,off,none⟩) L c):=(B1.cell 3).trans (by simpa using hc3)
 have x0:=(E1.cell (p:=⟨b,off+k*5,none⟩) hb).trans c0
 have x1:=(E1.cell (p:=⟨b,off+k*5+1,none⟩) hb).trans c1
 have x2:=(E1.cell (p:=⟨b,off+k*5+2,none⟩) hb).trans c2
 have x4:=(E1.cell (p:=⟨b,off+k*5+3,none⟩) hb).trans c3
 have x5:=(E1.cell (p:=⟨b,off+k*5+4,none⟩) hb).trans c4
 rw[hs0] at K0
 subst hw0
 have KH:=hU K0;have EH:=hU E1
 clear c0 c1 c2 c3 c4 hc3 K0 B0 E0 B1 E1 hs0
 obtain⟨w4,hw4,b2,e3⟩:∃ w4,w4=((w.alloc (.cells cs.toArray 37)).alloc (.cells #[.int .i64 0,.int .i64 0,.string ⟨#[]⟩,.int .i64 0,.string ⟨#[]⟩] 33)).setCells (w.heap.size+1) 0 [.int .i64 h.number,.int .i64 h.size,.string h.root,.int .i64 h.taken,.string h.takenRoot]/\Blk w4 (w.heap.size+1) 33 #[.int .i64 h.number,.int .i64 h.size,.string h.root,.int .i64 h.taken,.string h.takenRoot]/\Ext w w4:=
  ⟨_,rfl,KH.out.put 0 [.int .i64 h.number,.int .i64 h.size,.string h.root,.int .i64 h.taken,.string h.takenRoot] #[.int .i64 h.number,.int .i64 h.size,.string h.root,.int .i64 h.taken,.string h.takenRoot] (by simp) rfl,Qaa (W:=w) (g:=w.heap.size+1) (by omega) [.int .i64 h.number,.int .i64 h.size,.string h.root,.int .i64 h.taken,.string h.takenRoot] 0 _ EH.out⟩
 have HW:=hU hw4;have B2:=hU b2;have E3:=hU e3
 have T:=hU (KH.out.there 0 5 (by simp))
 clear hw4 b2 e3 KH EH
 go_enter Tryz.func123,Tryz.ntmps123
 go_wp2_with (first|(refine Qac rfl 33 _ _ rfl rfl (w.heap.size+1) 0 [.int .i64 h.number,.int .i64 h.size,.string h.root,.int .i64 h.taken,.string h.takenRoot] rfl rfl T.out (by kernel_rfl) (by rfl) ?_;rw[<-HW.out]))
 exact Qdc rfl rfl B2.out Tryz.underlying33 rfl (by kernel_rfl) rfl ⟨rfl,E3.out⟩
end Go.Proofs.YtbnkjgcpjeedfaaGreat

/-
  HashImpl; Shelf; HashTop: No condition.
-/
import Derived.Test.YtbnkjgcpjeedfaaGreatMixed
import Derived.Shelf.Strings.Repeat
import Derived.Test.YtbnkjgcpjeedfaaGreatProg
import Derived.Test.YtbnkjgcpjeedfaaGreatMem
import Derived.Test.YtbnkjgcpjeedfaaGreatRowTx
namespace Go.Proofs.YtbnkjgcpjeedfaaGreat
set_option maxHeartbeats 4000000
set_option maxRecDepth 100000
set_option linter.unusedSimpArgs false
open Go.RowKit
set_option linter.unusedVariables false
theorem Qfc(w:World)(x2 x3:Array Value)(t2 t3:TypeId) :
 Blk ((w.alloc (.cells x2 t2)).alloc (.cells x3 t3)) w.heap.size t2 x2/\Blk ((w.alloc (.cells x2 t2)).alloc (.cells x3 t3)) (w.heap.size+1) t3 x3/\Ext w ((w.alloc (.cells x2 t2)).alloc (.cells x3 t3)):=by
 have h3:(w.alloc (.cells x2 t2)).heap.size=w.heap.size+1:=by simp
 refine⟨(Blk.new w t2 x2).alloc _,?_,Ext.new (Ext.new (Below.refl w.heap.size w) _) _⟩
 have:=Blk.new (w.alloc (.cells x2 t2)) t3 x3;rwa [h3] at this
def Qjn (tag:Int):Nat->List Int
 | 0=>[0,0,0,0,0,0,0,0]
 | k+1=>(Qjn tag k).set k (Qh0 tag k)
theorem Qmq(tag:Int):∀ k,(Qjn tag k).length=8
 | 0=>rfl
 | k+1=>by rw[Qjn,List.length_set,Qmq tag k]
theorem Qsq(tag:Int):Qjn tag 8=Qen tag:=rfl
theorem Qoy(tag:Int)(w:World)(h0:0<=tag)(h1:tag<=255) :
 Calls Tryz.prog 148 #[.int .i64 tag] w fun e w'=>e=.returned (.agg (wrow (Qen tag)))/\Ext w w':=by
 obtain⟨B2,B3,he⟩:=Qfc w #[.int .u32 0,.int .u32 0,.int .u32 0,.int .u32 0,.int .u32 0,.int .u32 0,.int .u32 0,.int .u32 0] #[.int .u32 0,.int .u32 0,.int .u32 0,.int .u32 0,.int .u32 0,.int .u32 0,.int .u32 0,.int .u32 0] 204 204
 have K2:=hU B2;have He:=hU he
 have K3:=hU (show Blk _ _ 204 (wrow (Qjn tag 0)) from B3)
 clear B2 B3 he
 obtain⟨fin,hfin⟩:∃ fin,fin=wrow (Qen tag):=⟨_,rfl⟩
 rw[<-hfin]
 have Hfin:=hU hfin
 clear hfin
 go_enter Tryz.func148,Tryz.ntmps148
 go_wp2_with fail
 obtain⟨g,hg⟩:∃ g,g=w.heap.size:=⟨_,rfl⟩
 rw[<-hg] at K2 K3
 rw[<-hg]
 have Hg:w.heap.size<=g:=by omega
 clear hg
 go_loopw [5] (fun x wr=>∃ i:Nat,i<=8/\x=.int .i64 i/\Blk wr g 204 #[.int .u32 0,.int .u32 0,.int .u32 0,.int .u32 0,.int .u32 0,.int .u32 0,.int .u32 0,.int .u32 0]/\Blk wr (g+1) 204 (wrow (Qjn tag i))/\Ext w wr) (fun x _=>8-(intOf x).toNat)
 case atStart=>exact⟨0,by omega,rfl,K2.out,K3.out,He.out⟩
 case round=>
  clear K2 K3 He
  obtain⟨i,hi,rfl,B2,B3,he⟩:=hrel
  by_cases hlt:i<8
  · have hl:=Qmq tag i
    have q3:wr.cell? ⟨g+1,i,none⟩=some (.int .u32 (gw (Qjn tag i) i)):=by rw[B3.cell,Qel (by omega)]
    have m3:=B3.frozen i
    go_wp2_with fail
    go_roundw
    case rel=>
     have C2:=B2.far (p:=⟨g+1,i,none⟩) (by show g≠g+1;omega) (.int .u32 (Qh0 tag i))
     have C3:=B3.set_ i (.int .u32 (Qh0 tag i))
     have ce:Ext w (wr.setCell ⟨g+1,i,none⟩ (.int .u32 (Qh0 tag i))):=Below.setCell he (p:=⟨g+1,i,none⟩) (by show w.heap.size<=g+1;omega) _
     rw[Qj2] at C3
     exact⟨i+1,by omega,by go_num,C2,C3,ce⟩
    case measure=>simp[intOf];omega
  · have hi8:i=8:=by omega
    rw[hi8,Qsq] at B3
    have hd8:decide ((i:Int)<8)=false:=by rw[decide_eq_false_iff_not];omega
    clear hi8
    have hwl:=Qdb tag
    obtain⟨f0,f1,f2,f3,f4,f5,f6,f7,hf⟩:=Qqg hwl
    have Hf:=hU hf
    rw[hf] at B3
    clear hf hwl
    have B3':Blk wr (g+1) 204 #[.int .u32 f0,.int .u32 f1,.int .u32 f2,.int .u32 f3,.int .u32 f4,.int .u32 f5,.int .u32 f6,.int .u32 f7]:=B3
    obtain⟨hc,hm⟩:=B3'.rules
    obtain⟨hc4,hm4⟩:=B2.rules
    go_wp2_with fail
    have P:Blk (wr.setCells g 0 [.int .u32 f0,.int .u32 f1,.int .u32 f2,.int .u32 f3,.int .u32 f4,.int .u32 f5,.int .u32 f6,.int .u32 f7]) g 204 #[.int .u32 f0,.int .u32 f1,.int .u32 f2,.int .u32 f3,.int .u32 f4,.int .u32 f5,.int .u32 f6,.int .u32 f7]:=Blk.put B2 0 _ _ (by simp) rfl
    have R2:Ext w (wr.setCells g 0 [.int .u32 f0,.int .u32 f1,.int .u32 f2,.int .u32 f3,.int .u32 f4,.int .u32 f5,.int .u32 f6,.int .u32 f7]):=Qaa (by omega) _ _ _ he
    have R1:fin=#[.int .u32 f0,.int .u32 f1,.int .u32 f2,.int .u32 f3,.int .u32 f4,.int .u32 f5,.int .u32 f6,.int .u32 f7]:=by rw[Hfin.out,Hf.out];rfl
    clear hc hm hc4 hm4 B2 B3 B3' he
    rw[R1]
    refine Qdc rfl rfl P Tryz.underlying204 rfl (by kernel_rfl) rfl ?_
    exact⟨rfl,R2⟩
theorem byt_cut(T:ByteArray)(a j:Nat):byt (T.extract a T.size) j=byt T (a+j):=by
 unfold byt
 by_cases h:a+j<T.size
 · have h1:j<(T.extract a T.size).size:=by rw[ByteArray.size_extract];omega
   rw[dif_pos h,dif_pos h1,ByteArray.getElem_extract]
 · have h1:¬ j<(T.extract a T.size).size:=by rw[ByteArray.size_extract];omega
   rw[dif_neg h,dif_neg h1]
theorem Qv9(T:ByteArray)(a j:Nat):Qf6 (T.extract a T.size) j=Qf6 T (a+j):=by
 simp only[Qf6,byt_cut,Nat.add_assoc]
theorem Qvr(T:ByteArray)(a:Nat):Qgg (T.extract a T.size) 0=Qgg T a:=by
 unfold Qgg
 apply List.map_congr_left
 intro i _
 rw[Qv9,Nat.zero_add]
def Qk6 (T:ByteArray):Nat->List Int
 | 0=>[0,0,0,0,0,0,0,0,0,0,0,0,0,0,0,0]
 | k+1=>(Qk6 T k).set k (Qf6 T (4*k))
theorem Qob(T:ByteArray):∀ k,(Qk6 T k).length=16
 | 0=>rfl
 | k+1=>by rw[Qk6,List.length_set,Qob T k]
theorem Qsd(T:ByteArray):Qk6 T 16=Qgg T 0:=by
 have:Qgg T 0=(List.range 16).map fun i=>Qf6 T (4*i):=by
  unfold Qgg
  apply List.map_congr_left
  intro i _
  rw[Nat.zero_add]
 rw[this]
 rfl
theorem cut_cut(T:ByteArray)(a b:Nat)(h:a<=T.size):(T.extract a T.size).extract b (T.extract a T.size).size=T.extract (a+b) T.size:=by
 rw[ByteArray.extract_extract,ByteArray.size_extract]
 congr 1
 omega
theorem Qu7(s:List Int)(T:ByteArray)(w:World)(hs:s.length=8)(ws:W32 s)(hT:T.size<=1048576) :
 Calls Tryz.prog 147 #[.agg (wrow s),.string T] w fun e w'=>e=.returned (.agg (wrow (mixT T s (T.size / 64))))/\Ext w w':=by
 obtain⟨a0,a1,a2,a3,a4,a5,a6,a7,rfl⟩:=Qqg hs
 obtain⟨s,hsd⟩:∃ s,s=[a0,a1,a2,a3,a4,a5,a6,a7]:=⟨_,rfl⟩
 have es:wrow [a0,a1,a2,a3,a4,a5,a6,a7]=#[.int .u32 a0,.int .u32 a1,.int .u32 a2,.int .u32 a3,.int .u32 a4,.int .u32 a5,.int .u32 a6,.int .u32 a7]:=rfl
 obtain⟨fin,hfin⟩:∃ fin,fin=wrow (mixT T s (T.size / 64)):=⟨_,rfl⟩
 rw[es,<-hsd,<-hfin]
 rw[<-hsd] at hs ws es
 obtain⟨B2,B3,he⟩:=Qfc w #[.int .u32 a0,.int .u32 a1,.int .u32 a2,.int .u32 a3,.int .u32 a4,.int .u32 a5,.int .u32 a6,.int .u32 a7] #[.int .u32 0,.int .u32 0,.int .u32 0,.int .u32 0,.int .u32 0,.int .u32 0,.int .u32 0,.int .u32 0] 204 204
 have K2:=hU B2;have K3:=hU B3;have He:=hU he
 have Hfin:=hU hfin
 have Es:=hU es
 clear hsd hfin es B2 B3 he
 have HT:Hid (T=T.extract (64*0) T.size):=hU (by simp)
 go_enter Tryz.func147,Tryz.ntmps147
 go_wp2_with fail
 obtain⟨g,hg⟩:∃ g,g=w.heap.size:=⟨_,rfl⟩
 rw[<-hg] at K2 K3
 rw[<-hg]
 have Hg:w.heap.size<=g:=by omega
 rw[<-Es.out] at K2 K3 He
 rw[<-Es.out]
 clear hg
 go_loopw [1] (fun x wr=>∃(k:Nat) (R:ByteArray),x=.string R/\64*k+R.size=T.size/\Hid (R=T.extract (64*k) T.size)/\Blk wr g 204 (wrow (mixT T s k))/\Blk wr (g+1) 204 #[.int .u32 0,.int .u32 0,.int .u32 0,.int .u32 0,.int .u32 0,.int .u32 0,.int .u32 0,.int .u32 0]/\Ext w wr) (fun x _=>match x with|.string r=>r.size|_=>0)
 case atStart=>exact⟨0,T,rfl,by omega,HT,K2.out,K3.out,He.out⟩
 case round=>
  clear K2 K3 He HT
  obtain⟨k,R,rfl,hk,hR,B2,B3,he⟩:=hrel
  have K2:=hU B2;have K3:=hU B3
  clear B2 B3
  by_cases hlt:64<=R.size
  · have hd64:decide ((64:Int)<=(R.size:Int))=true:=by rw[decide_eq_true_eq];omega
    obtain⟨wo,rfl⟩:∃ wo:World,wo=wr:=⟨_,rfl⟩
    have hl64:(64:Int)<=(R.size:Int):=by omega
    have B5:=Blk.new wo 273 #[.int .u32 0,.int .u32 0,.int .u32 0,.int .u32 0,.int .u32 0,.int .u32 0,.int .u32 0,.int .u32 0,.int .u32 0,.int .u32 0,.int .u32 0,.int .u32 0,.int .u32 0,.int .u32 0,.int .u32 0,.int .u32 0]
    have he5:=Ext.new he (.cells #[.int .u32 0,.int .u32 0,.int .u32 0,.int .u32 0,.int .u32 0,.int .u32 0,.int .u32 0,.int .u32 0,.int .u32 0,.int .u32 0,.int .u32 0,.int .u32 0,.int .u32 0,.int .u32 0,.int .u32 0,.int .u32 0] 273)
    have L5:=hU (show Blk _ _ 273 (wrow (Qk6 R 0)) from B5)
    have L2:=hU (K2.out.alloc (.cells #[.int .u32 0,.int .u32 0,.int .u32 0,.int .u32 0,.int .u32 0,.int .u32 0,.int .u32 0,.int .u32 0,.int .u32 0,.int .u32 0,.int .u32 0,.int .u32 0,.int .u32 0,.int .u32 0,.int .u32 0,.int .u32 0] 273))
    have L3:=hU (K3.out.alloc (.cells #[.int .u32 0,.int .u32 0,.int .u32 0,.int .u32 0,.int .u32 0,.int .u32 0,.int .u32 0,.int .u32 0,.int .u32 0,.int .u32 0,.int .u32 0,.int .u32 0,.int .u32 0,.int .u32 0,.int .u32 0,.int .u32 0] 273))
    have hgo:g+1<wo.heap.size:=K3.out.lt
    clear B5 K2 K3
    go_wp2_with fail
    obtain⟨h,hh⟩:∃ h,h=wo.heap.size:=⟨_,rfl⟩
    rw[<-hh] at L5 hgo
    rw[<-hh]
    clear hh
    go_loopw [12] (fun x wr=>∃ i:Nat,i<=16/\x=.int .i64 i/\Blk wr g 204 (wrow (mixT T s k))/\Blk wr (g+1) 204 #[.int .u32 0,.int .u32 0,.int .u32 0,.int .u32 0,.int .u32 0,.int .u32 0,.int .u32 0,.int .u32 0]/\Blk wr h 273 (wrow (Qk6 R i))/\Ext w wr) (fun x _=>16-(intOf x).toNat)
    case atStart=>exact⟨0,by omega,rfl,L2.out,L3.out,L5.out,he5⟩
    case round=>
     clear L2 L3 L5 he he5
     obtain⟨i,hi,rfl,B2,B3,B5,he⟩:=hrel
     by_cases hlt2:i<16
     · have hl:=Qob R i
       have hl5:(Qk6 R i).length=16:=hl
       obtain⟨y,hy⟩:∃ y,y=Qf6 R (4*i):=⟨_,rfl⟩
       have Hn:Hid ((Qk6 R i).set i y=Qk6 R (i+1)):=hU (by rw[hy];rfl)
       have Hy:=hU hy
       clear hl hy
       go_wp2_with fail
       refine(Qto R (4*(i:Int)) _ (by omega) (by omega) (by omega)).mono ?_
       rintro e w1 ⟨rfl,m,rfl⟩
       rw[show(4*(i:Int)).toNat=4*i by omega,<-Hy.out]
       have C2:=B2.drewN m;have C3:=B3.drewN m;have C5:=B5.drewN m;have ce:=he.drewN m
       clear B2 B3 B5 he
       have hne1:g≠h:=by omega
       have hne2:g+1≠h:=by omega
       generalize wr.drewN m=w2 at *
       have q5:w2.cell? ⟨h,i,none⟩=some (.int .u32 (gw (Qk6 R i) i)):=by rw[C5.cell,Qel (by omega)]
       have m5:=C5.frozen i
       have D2:=C2.far (p:=⟨h,i,none⟩) hne1 (.int .u32 y)
       have D3:=C3.far (p:=⟨h,i,none⟩) hne2 (.int .u32 y)
       have D5:=C5.set_ i (.int .u32 y)
       have de:Ext w (w2.setCell ⟨h,i,none⟩ (.int .u32 y)):=Below.setCell ce (p:=⟨h,i,none⟩) (by show w.heap.size<=h;omega) _
       rw[Qj2,Hn.out] at D5
       have M2:=hU D2;have M3:=hU D3;have M5:=hU D5;have Me:=hU de
       clear D2 D3 D5 de C2 C3 C5 ce
       go_wp2_with fail
       go_roundw
       case rel=>exact⟨i+1,by omega,by go_num,M2.out,M3.out,M5.out,Me.out⟩
       case measure=>simp[intOf];omega
     · have hi16:i=16:=by omega
       rw[hi16] at B5
       have hd16:decide ((i:Int)<16)=false:=by rw[decide_eq_false_iff_not];omega
       clear hi16
       have hbl:(Qk6 R 16).length=16:=Qob R 16
       have hb32:W32 (Qk6 R 16):=by rw[Qsd];exact Qsc R 0
       have hbe:Qk6 R 16=Qgg T (64*k):=by rw[Qsd,hR.out,Qvr]
       obtain⟨b,hbd⟩:∃ b,b=Qk6 R 16:=⟨_,rfl⟩
       rw[<-hbd] at B5 hbl hb32 hbe
       have Hbe:=hU hbe
       clear hbd hbe
       have hvl:(mixT T s k).length=8:=by rw[Qgn,hs]
       have hv32:W32 (mixT T s k):=Qna T ws k
       have Hnext:Hid (mixW (mixT T s k) b=mixT T s (k+1)):=hU (by rw[Hbe.out];rfl)
       obtain⟨v,hv⟩:∃ v,v=mixT T s k:=⟨_,rfl⟩
       rw[<-hv] at B2 hvl hv32 Hnext
       clear hv
       have E2:=hU B2;have E5:=hU B5
       obtain⟨v0,v1,v2,v3,v4,v5,v6,v7,hve⟩:=Qqg hvl
       obtain⟨c0,c1,c2,c3,c4,c5,c6,c7,c8,c9,d0,d1,d2,d3,d4,d5,hbe2⟩:=list16 hbl
       have F2:Blk wr g 204 #[.int .u32 v0,.int .u32 v1,.int .u32 v2,.int .u32 v3,.int .u32 v4,.int .u32 v5,.int .u32 v6,.int .u32 v7]:=by rw[hve] at B2;exact B2
       have F5:Blk wr h 273 #[.int .u32 c0,.int .u32 c1,.int .u32 c2,.int .u32 c3,.int .u32 c4,.int .u32 c5,.int .u32 c6,.int .u32 c7,.int .u32 c8,.int .u32 c9,.int .u32 d0,.int .u32 d1,.int .u32 d2,.int .u32 d3,.int .u32 d4,.int .u32 d5]:=by rw[hbe2] at B5;exact B5
       have Hve:=hU (show wrow v=#[.int .u32 v0,.int .u32 v1,.int .u32 v2,.int .u32 v3,.int .u32 v4,.int .u32 v5,.int .u32 v6,.int .u32 v7] by rw[hve];rfl)
       have Hbe2:=hU (show wrow b=#[.int .u32 c0,.int .u32 c1,.int .u32 c2,.int .u32 c3,.int .u32 c4,.int .u32 c5,.int .u32 c6,.int .u32 c7,.int .u32 c8,.int .u32 c9,.int .u32 d0,.int .u32 d1,.int .u32 d2,.int .u32 d3,.int .u32 d4,.int .u32 d5] by rw[hbe2];rfl)
       clear hve hbe2 B2 B5
       obtain⟨r2,r3⟩:=F2.rules
       obtain⟨r4,r5⟩:=F5.rules
       go_wp2_with fail
       rw[<-Hve.out,<-Hbe2.out]
       refine(Qxr v b wr hvl hbl hv32 hb32).mono ?_
       rintro e w1 ⟨rfl,h1⟩
       have G3:=hU (B3.ext h1);have ge:=he.next h1
       have hml:(mixW v b).length=8:=by rw[Qqd,hvl]
       obtain⟨m0,m1,m2,m3,m4,m5,m6,m7,hme⟩:=Qqg hml
       have Hme:=hU (show wrow (mixW v b)=#[.int .u32 m0,.int .u32 m1,.int .u32 m2,.int .u32 m3,.int .u32 m4,.int .u32 m5,.int .u32 m6,.int .u32 m7] by rw[hme];rfl)
       rw[Hme.out]
       have G2:=F2.ext h1
       clear hme hml r2 r3 r4 r5 F5 F2 h1 B3 he
       obtain⟨r2,r3⟩:=G2.rules
       go_wp2_with fail
       have P:Blk (w1.setCells g 0 [.int .u32 m0,.int .u32 m1,.int .u32 m2,.int .u32 m3,.int .u32 m4,.int .u32 m5,.int .u32 m6,.int .u32 m7]) g 204 #[.int .u32 m0,.int .u32 m1,.int .u32 m2,.int .u32 m3,.int .u32 m4,.int .u32 m5,.int .u32 m6,.int .u32 m7]:=Blk.put G2 0 _ _ (by simp) rfl
       have P3:=Blk.farCells (g:=g+1) (g':=g) (by omega) [.int .u32 m0,.int .u32 m1,.int .u32 m2,.int .u32 m3,.int .u32 m4,.int .u32 m5,.int .u32 m6,.int .u32 m7] 0 w1 G3.out
       have R2:Ext w (w1.setCells g 0 [.int .u32 m0,.int .u32 m1,.int .u32 m2,.int .u32 m3,.int .u32 m4,.int .u32 m5,.int .u32 m6,.int .u32 m7]):=Qaa Hg _ _ _ ge
       have P2:Blk (w1.setCells g 0 [.int .u32 m0,.int .u32 m1,.int .u32 m2,.int .u32 m3,.int .u32 m4,.int .u32 m5,.int .u32 m6,.int .u32 m7]) g 204 (wrow (mixT T s (k+1))):=by rw[<-Hnext.out,Hme.out];exact P
       have hcs:(R.extract 64 R.size).size=R.size-64:=by rw[ByteArray.size_extract];omega
       clear r2 r3 G2 P ge
       go_roundw
       case rel=>exact⟨k+1,_,rfl,by rw[hcs];omega,hU (by rw[hR.out,cut_cut _ _ _ (by omega)];rfl),P2,P3,R2⟩
       case measure=>show(R.extract 64 R.size).size<R.size;rw[hcs];omega
  · have hd64:decide ((64:Int)<=(R.size:Int))=false:=by rw[decide_eq_false_iff_not];omega
    have hkk:k=T.size / 64:=by omega
    have B2:=K2.out
    rw[hkk] at B2
    have hwl:(mixT T s (T.size / 64)).length=8:=by rw[Qgn,hs]
    obtain⟨f0,f1,f2,f3,f4,f5,f6,f7,hf⟩:=Qqg hwl
    have Hf:=hU hf
    rw[hf] at B2
    clear hf hwl hkk
    have B2':Blk wr g 204 #[.int .u32 f0,.int .u32 f1,.int .u32 f2,.int .u32 f3,.int .u32 f4,.int .u32 f5,.int .u32 f6,.int .u32 f7]:=B2
    obtain⟨hc,hm⟩:=B2'.rules
    have B3:=K3.out
    obtain⟨hc4,hm4⟩:=B3.rules
    go_wp2_with fail
    have P:Blk (wr.setCells (g+1) 0 [.int .u32 f0,.int .u32 f1,.int .u32 f2,.int .u32 f3,.int .u32 f4,.int .u32 f5,.int .u32 f6,.int .u32 f7]) (g+1) 204 #[.int .u32 f0,.int .u32 f1,.int .u32 f2,.int .u32 f3,.int .u32 f4,.int .u32 f5,.int .u32 f6,.int .u32 f7]:=Blk.put B3 0 _ _ (by simp) rfl
    have R2:Ext w (wr.setCells (g+1) 0 [.int .u32 f0,.int .u32 f1,.int .u32 f2,.int .u32 f3,.int .u32 f4,.int .u32 f5,.int .u32 f6,.int .u32 f7]):=Qaa (by omega) _ _ _ he
    have R1:fin=#[.int .u32 f0,.int .u32 f1,.int .u32 f2,.int .u32 f3,.int .u32 f4,.int .u32 f5,.int .u32 f6,.int .u32 f7]:=by rw[Hfin.out,Hf.out];rfl
    clear hc hm hc4 hm4 B2 B3 B2' he K2 K3
    rw[R1]
    refine Qdc rfl rfl P Tryz.underlying204 rfl (by kernel_rfl) rfl ?_
    exact⟨rfl,R2⟩
end Go.Proofs.YtbnkjgcpjeedfaaGreat
namespace Go.Proofs.YtbnkjgcpjeedfaaGreat
open Go.Shelf Go.RowKit
set_option linter.unusedSimpArgs false
set_option linter.unusedVariables false
def Qnf:Go.Shelf.Ren:=⟨fun|105=>218|212=>254|99=>255|165=>256|166=>183|170=>182|169=>184|263=>273|264=>274|206=>275|240=>238|241=>276|276=>268|277=>279|n=>n,fun|9=>9|3=>3|4=>4|20=>20|0=>0|46=>162|109=>305|5=>5|72=>238|76=>242|51=>194|146=>320|53=>322|148=>323|70=>236|37=>22|75=>241|127=>295|164=>315|80=>244|n=>n,fun|n=>n⟩
theorem Qqj:Go.Proofs.Lays.n105 Tryz.prog Qnf:={
 mixed:=by kernel_rfl
 f99:=Tryz.func255.trans (congrArg some (by kernel_rfl))
 f105:=Tryz.func218.trans (congrArg some (by kernel_rfl))
 f165:=Tryz.func256.trans (congrArg some (by kernel_rfl))
 f166:=Tryz.func183.trans (congrArg some (by kernel_rfl))
 f169:=Tryz.func184.trans (congrArg some (by kernel_rfl))
 f170:=Tryz.func182.trans (congrArg some (by kernel_rfl))
 f206:=Tryz.func275.trans (congrArg some (by kernel_rfl))
 f212:=Tryz.func254.trans (congrArg some (by kernel_rfl))
 f240:=Tryz.func238.trans (congrArg some (by kernel_rfl))
 f241:=Tryz.func276.trans (congrArg some (by kernel_rfl))
 f263:=Tryz.func273.trans (congrArg some (by kernel_rfl))
 f264:=Tryz.func274.trans (congrArg some (by kernel_rfl))
 f276:=Tryz.func268.trans (congrArg some (by kernel_rfl))
 f277:=Tryz.func279.trans (congrArg some (by kernel_rfl))
 t0:=Tryz.underlying0
 a0:=Tryz.isAgg0
 z0:=Tryz.sizeOf0
 v0:=Tryz.zeroValue0
 t3:=Tryz.underlying3
 a3:=Tryz.isAgg3
 z3:=Tryz.sizeOf3
 v3:=Tryz.zeroValue3
 t4:=Tryz.underlying4
 a4:=Tryz.isAgg4
 z4:=Tryz.sizeOf4
 v4:=Tryz.zeroValue4
 t5:=Tryz.underlying5
 a5:=Tryz.isAgg5
 z5:=Tryz.sizeOf5
 v5:=Tryz.zeroValue5
 t9:=Tryz.underlying9
 a9:=Tryz.isAgg9
 z9:=Tryz.sizeOf9
 v9:=Tryz.zeroValue9
 t20:=Tryz.underlying20
 a20:=Tryz.isAgg20
 z20:=Tryz.sizeOf20
 v20:=Tryz.zeroValue20
 t37:=Tryz.underlying22
 a37:=Tryz.isAgg22
 z37:=Tryz.sizeOf22
 v37:=Tryz.zeroValue22
 t46:=Tryz.underlying162
 a46:=Tryz.isAgg162
 z46:=Tryz.sizeOf162
 v46:=Tryz.zeroValue162
 t51:=Tryz.underlying194
 a51:=Tryz.isAgg194
 z51:=Tryz.sizeOf194
 v51:=Tryz.zeroValue194
 t53:=Tryz.underlying322
 a53:=Tryz.isAgg322
 z53:=Tryz.sizeOf322
 v53:=Tryz.zeroValue322
 t70:=Tryz.underlying236
 a70:=Tryz.isAgg236
 z70:=Tryz.sizeOf236
 v70:=Tryz.zeroValue236
 t72:=Tryz.underlying238
 a72:=Tryz.isAgg238
 z72:=Tryz.sizeOf238
 v72:=Tryz.zeroValue238
 t75:=Tryz.underlying241
 a75:=Tryz.isAgg241
 z75:=Tryz.sizeOf241
 v75:=Tryz.zeroValue241
 t76:=Tryz.underlying242
 a76:=Tryz.isAgg242
 z76:=Tryz.sizeOf242
 v76:=Tryz.zeroValue242
 t109:=Tryz.underlying305
 a109:=Tryz.isAgg305
 z109:=Tryz.sizeOf305
 v109:=Tryz.zeroValue305
 t127:=Tryz.underlying295
 a127:=Tryz.isAgg295
 z127:=Tryz.sizeOf295
 v127:=Tryz.zeroValue295
 t146:=Tryz.underlying320
 a146:=Tryz.isAgg320
 z146:=Tryz.sizeOf320
 v146:=Tryz.zeroValue320
 t148:=Tryz.underlying323
 a148:=Tryz.isAgg323
 z148:=Tryz.sizeOf323
 v148:=Tryz.zeroValue323
 t164:=Tryz.underlying315
 a164:=Tryz.isAgg315
 z164:=Tryz.sizeOf315
 v164:=Tryz.zeroValue315 }
theorem Qqr:Builder.Extra Tryz.prog Qnf:={
 sizeBuilder:=by kernel_rfl
 liesBuilder:=by kernel_rfl
 t5:=Tryz.underlying5
 a5:=Tryz.isAgg5
 z5:=Tryz.sizeOf5
 v5:=Tryz.zeroValue5
 infoByte:=by kernel_rfl
 cellsByte:=by kernel_rfl
 sizeByte:=by kernel_rfl
 neB5:=by decide }
theorem Qv0(s:ByteArray)(c:Int)(w:World)(h0:0<=c)(hc:c<=1099511627776)(hs:s.size<=100) :
 Calls Tryz.prog 218 #[.string s,.int .i64 c] w fun e w'=>e=.returned (.string ⟨(Lib.repeatL s.data.toList c.toNat).toArray⟩)/\Ext w w':=by
 obtain⟨n,rfl⟩:=Int.eq_ofNat_of_zero_le h0
 rw[Int.toNat_natCast]
 have:s.size*n<=100*n:=Nat.mul_le_mul_right _ hs
 exact Any.strings_Repeat Qqj Qqr s n w (by omega) (by omega)
theorem Qio(B b:Nat)(bs:List Value)(s:ByteArray)(w:World)(h:Lib.IsBuilder 238 5 B b bs w)(hlen:bs.length+s.size<=140737488355328)(hBw:B<=w.heap.size) :
 Calls Tryz.prog 183 #[.pointer (some ⟨b,0,none⟩),.string s] w fun e w'=>e=.returned (.tuple #[.int .i64 s.size,.nilIface])/\(Lib.BuilderAt 238 5 B b (.pointer (some ⟨b,0,none⟩)) (bs++Lib.strCells s) w'/\Below B w w'):=
 Any.Builder_WriteString { Qqj with } Qqr B b bs s w h hlen hBw
theorem Qhe(B b:Nat)(l:List UInt8)(w:World)(h:Lib.IsBuilder 238 5 B b (Lib.byteCells l) w)(hBw:B<=w.heap.size) :
 Calls Tryz.prog 184 #[.pointer (some ⟨b,0,none⟩)] w fun e w'=>e=.returned (.string ⟨l.toArray⟩)/\Below B w w':=
 Any.Builder_String_any { Qqj with } Qqr B b l w h hBw
theorem Qo0(B b:Nat)(bs:List Value)(w:World)(h:Lib.IsBuilder 238 5 B b bs w) :
 Calls Tryz.prog 182 #[.pointer (some ⟨b,0,none⟩)] w fun e w'=>e=.returned (.int .i64 bs.length)/\w'=w:=
 Any.Builder_Len { Qqj with } B b bs w h
end Go.Proofs.YtbnkjgcpjeedfaaGreat
namespace Go.Proofs.YtbnkjgcpjeedfaaGreat
set_option maxHeartbeats 2000000
set_option maxRecDepth 100000
set_option linter.unusedSimpArgs false
open Go.RowKit
set_option linter.unusedVariables false
theorem Qk5{T e:TypeId}{B b:Nat}{p:Value}{bs:List Value}{w w':World}(h:Lib.BuilderAt T e B b p bs w)(he:Ext w w'):Lib.BuilderAt T e B b p bs w':=by
 obtain⟨h1,v,h2,h3,h4⟩:=h
 exact⟨h1,v,(he.block b (Blk.lt (t:=T) (cs:=#[p,v]) h2)).trans h2,Qag h3 he,h4⟩
theorem Qkm{T e:TypeId}{B b:Nat}{bs:List Value}{w w':World}(h:Lib.IsBuilder T e B b bs w)(he:Ext w w'):Lib.IsBuilder T e B b bs w':=by
 rcases h with h|h
 · exact .inl (Qk5 h he)
 · exact .inr (Qk5 h he)
def bstr (s:ByteArray):List Value:=Lib.byteCells s.data.toList
theorem Qoa(a b:ByteArray):bstr (a++b)=bstr a++Lib.strCells b:=by
 simp[bstr,Lib.byteCells,Lib.strCells,ByteArray.data_append]
theorem Qul(a:ByteArray):(bstr a).length=a.size:=by rw[bstr,Lib.byteCells_length,Array.length_toList];rfl
def Qgm (x:Int):List Value:=[.int .u32 x]
theorem Qj3(x:Int):(Qgm x).length=1:=rfl
theorem Qmp(l:List Int):l.flatMap Qgm=l.map Qq6:=by
 induction l with
 | nil=>rfl
 | cons a l ih=>rw[List.flatMap_cons,ih];rfl
theorem Qvw(A:Option Addr)(c:Nat)(l:List Int)(w:World)(hr:Qav w w.heap.size Qgm 1 A l)(h32:W32 l)(hl:l.length<=1000) :
 Calls Tryz.prog 215 #[.slice A l.length c] w fun e w'=>e=.returned (.tuple #[.string (Qd5 l),.bool true])/\Ext w w':=by
 have hfresh:=hU (Lib.fresh_isBuilder 238 5 w)
 have He:=hU (Ext.new (Below.refl w.heap.size w) (.cells #[.pointer none,.slice none 0 0] 238))
 go_enter Tryz.func215,Tryz.ntmps215
 go_wp2_with fail
 obtain⟨b,hb⟩:∃ b,b=w.heap.size:=⟨_,rfl⟩
 rw[<-hb] at hfresh
 rw[<-hb]
 have hr':Qav w b Qgm 1 A l:=by rw[hb];exact hr
 have He2:∀ w',Ext w w'->Below b w w':=fun w' h=>by rw[hb];exact h
 have He3:∀ w1 w',Below b w w1->Below b w1 w'->Below b w w':=fun w1 w' h k=>h.trans k
 have Hb:=hU hb
 have HA:=hU (He2 _ He.out)
 clear hb hr He2 He He3
 go_loopw [12] (fun x wr=>∃(k:Nat),k<=l.length/\x=.int .i64 k/\Lib.IsBuilder 238 5 b b (bstr (Qd5 (l.take k))) wr/\Below b w wr/\b<=wr.heap.size) (fun x _=>l.length-(intOf x).toNat)
 case atStart=>exact⟨0,Nat.zero_le _,rfl,hfresh.out,HA.out,by have:=Hb.out;simp;omega⟩
 case round=>
  obtain⟨k,hk,rfl,hB,he,hbs⟩:=hrel
  clear hfresh HA
  have KB:=hU hB
  clear hB
  by_cases hlt:k<l.length
  · have hdk:decide ((k:Int)<(l.length:Int))=true:=by rw[decide_eq_true_eq];omega
    obtain⟨g,off,rfl,hg,hc⟩:=(hr'.below he).at_ (k:=k) hlt
    have hdl:l[k]?=some (gw l k):=Quf hlt
    have c0:=hc 0 _ (Qa9 _ 1 Qj3 l k 0 _ hdl (by omega))
    rw[Nat.add_zero,Nat.mul_one] at c0
    obtain⟨h0,h1⟩:=Qx1 h32 k
    have hsn:Qd5 (l.take (k+1))=Qd5 (l.take k)++Qgh (gw l k):=by
     rw[List.take_succ_eq_append_getElem hlt,Qlh]
     have:l[k]=gw l k:=by rw[List.getElem?_eq_getElem hlt] at hdl;simpa using hdl
     rw[this]
    have Hsn:=hU hsn
    have hsz:(Qd5 (l.take k)).size<=4000:=by rw[Qf1,List.length_take];omega
    obtain⟨x,hx⟩:∃ x,x=gw l k:=⟨_,rfl⟩
    rw[<-hx] at c0 h0 h1 Hsn
    clear hx hc hsn hdl
    go_wp2_with fail
    refine(Qip x _ h0 h1).mono ?_
    rintro e w1 ⟨rfl,e1⟩
    have hB1:=Qkm KB.out e1
    have he1:=he.trans (e1.mono hbs)
    have hbs1:b<=w1.heap.size:=Nat.le_trans hbs e1.size
    clear c0 KB he hbs e1
    go_wp2_with fail
    refine(Qio b b _ (Qgh x) _ hB1 (by rw[Qul,Qgy];omega) hbs1).mono ?_
    rintro e w2 ⟨rfl,hB2,e2⟩
    have hB3:Lib.IsBuilder 238 5 b b (bstr (Qd5 (l.take (k+1)))) w2:=by rw[Hsn.out,Qoa];exact .inr hB2
    have KB:=hU hB3
    have he2:=he1.trans e2
    have hbs2:b<=w2.heap.size:=Nat.le_trans hbs1 e2.size
    clear hB1 hB2 hB3 he1 e2 hbs1
    go_wp2_with fail
    go_roundw
    case rel=>exact⟨k+1,by omega,by go_num,KB.out,he2,hbs2⟩
    case measure=>simp[intOf];omega
  · have hB:=KB.out
    rw[List.take_of_length_le (by omega)] at hB
    have hdk:decide ((k:Int)<(l.length:Int))=false:=by rw[decide_eq_false_iff_not];omega
    clear KB
    go_wp2_with fail
    refine(Qhe b b _ _ hB hbs).mono ?_
    rintro e w2 ⟨rfl,e2⟩
    have he2:=he.trans e2
    clear hB e2 he
    go_wp2_with fail
    go_ret2
    exact⟨rfl,by rw[Hb.out] at he2;exact he2⟩
theorem Qts{w:World}{g t:Nat}{l:List Int}(h:Blk w g t (wrow l)):Qav w w.heap.size Qgm 1 (some ⟨g,0,none⟩) l:=by
 refine Blk.readsL (t:=t) Qj3 ?_
 rw[Qmp]
 exact h
theorem Qtq(A:Option Addr)(c:Nat)(l:List Int)(w:World)(hr:Qav w w.heap.size Qgm 1 A l)(h32:W32 l)(hl:l.length=8) :
 Calls Tryz.prog 215 #[.slice A 8 c] w fun e w'=>e=.returned (.tuple #[.string (Qd5 l),.bool true])/\Ext w w':=by
 have:=Qvw A c l w hr h32 (by omega)
 rw[hl] at this
 exact this
theorem Qqu(n:Int)(s:List Int)(w:World)(hs:s.length=8)(ws:W32 s)(h0:1<=n)(h1:n<=32) :
 Calls Tryz.prog 146 #[.int .i64 n,.agg (wrow s)] w fun e w'=>e=.returned (.string ((Qd5 s).extract 0 n.toNat))/\Ext w w':=by
 obtain⟨a0,a1,a2,a3,a4,a5,a6,a7,rfl⟩:=Qqg hs
 obtain⟨s,hsd⟩:∃ s,s=[a0,a1,a2,a3,a4,a5,a6,a7]:=⟨_,rfl⟩
 have es:wrow [a0,a1,a2,a3,a4,a5,a6,a7]=#[.int .u32 a0,.int .u32 a1,.int .u32 a2,.int .u32 a3,.int .u32 a4,.int .u32 a5,.int .u32 a6,.int .u32 a7]:=rfl
 rw[<-hsd] at hs ws es
 rw[<-hsd,es]
 have B:=Blk.new w 204 (wrow s)
 have HR:=hU (Qts B)
 rw[es] at HR
 have He:=hU (Ext.new (Below.refl w.heap.size w) (.cells #[.int .u32 a0,.int .u32 a1,.int .u32 a2,.int .u32 a3,.int .u32 a4,.int .u32 a5,.int .u32 a6,.int .u32 a7] 204))
 have hsz:(Qd5 s).size=32:=by rw[Qf1,hs]
 clear B es hsd
 obtain⟨T,hT⟩:∃ T,T=Qd5 s:=⟨_,rfl⟩
 rw[<-hT] at hsz
 rw[<-hT]
 have HT:=hU hT
 clear hT
 obtain⟨m,rfl⟩:=Int.eq_ofNat_of_zero_le (show 0<=n by omega)
 rw[Int.toNat_natCast]
 have hm:m<=T.size:=by omega
 have hm2:(m:Int)<=(T.size:Int):=by omega
 go_enter Tryz.func146,Tryz.ntmps146
 go_wp2_with fail
 refine(Qtq (some ⟨w.heap.size,0,none⟩) 8 s _ HR.out ws hs).mono ?_
 rintro e w1 ⟨he1,h1⟩
 rw[<-HT.out] at he1
 subst he1
 have he:=Ext.next He.out h1
 go_wp2_with fail
 go_ret
 exact⟨rfl,he⟩
theorem Qs1(n:Nat):(⟨(Lib.repeatL [(0:UInt8)] n).toArray⟩:ByteArray)=Qpv n:=by
 have:∀ n,Lib.repeatL [(0:UInt8)] n=List.replicate n 0:=by
  intro n
  induction n with
  | zero=>rfl
  | succ n ih=>rw[Lib.repeatL,ih];rfl
 rw[this];rfl
theorem Qxm(n:Int)(w:World)(h0:0<=n)(h1:n<=4000) :
 Calls Tryz.prog 149 #[.int .i64 n] w fun e w'=>e=.returned (.string (padT n.toNat))/\Ext w w':=by
 obtain⟨m,rfl⟩:=Int.eq_ofNat_of_zero_le h0
 rw[Int.toNat_natCast]
 have hz:((119-(m:Int)) % 64).toNat=padZ m:=by unfold padZ;omega
 have Hz:=hU hz
 have zs:(Qpv (padZ m)).size<=64:=by rw[Qo1];unfold padZ;omega
 have p1:(⟨#[128]⟩:ByteArray).size<=1:=Nat.le_refl _
 have p2:(Qgh 0).size<=4:=Nat.le_refl _
 have p3:(Qgh (m:Int)).size<=4:=Nat.le_refl _
 have P:=hU (show padT m=⟨#[128]⟩++Qpv (padZ m)++Qgh 0++Qgh (m:Int) from rfl)
 have hd:(m:Int) / 4294967296=0:=by omega
 clear hz
 go_enter Tryz.func149,Tryz.ntmps149
 go_wp2_with fail
 refine(Qv0 _ _ _ (by omega) (by omega) (by decide)).mono ?_
 rintro e w1 ⟨rfl,he⟩
 rw[Hz.out,Qs1]
 go_wp2_with fail
 refine(Qip _ _ (by omega) (by omega)).mono ?_
 rintro e w2 ⟨rfl,h1⟩
 replace he:=he.next h1;clear h1
 go_wp2_with fail
 refine(Qip _ _ (by omega) (by omega)).mono ?_
 rintro e w3 ⟨rfl,h1⟩
 replace he:=he.next h1;clear h1
 go_wp2_with fail
 go_ret
 exact⟨Qm3 P.out.symm,he⟩
theorem Qbn(n:Int)(w:World):Calls Tryz.prog 55 #[.int .i64 n] w fun e w'=>e=.returned (.bool (inR n 1 32))/\w=w':=by
 go_enter Tryz.func55,Tryz.ntmps55
 go_wp2_with (go_at_call 108;refine(Qba _ _ _ _).mono ?_;rintro e w' ⟨rfl,rfl⟩)
 go_ret
 exact⟨rfl,rfl⟩
theorem Qkl(n:Int)(w:World):Calls Tryz.prog 145 #[.int .i64 n] w fun e w'=>e=.returned (.bool (inR n 0 255))/\w=w':=by
 go_enter Tryz.func145,Tryz.ntmps145
 go_wp2_with (go_at_call 108;refine(Qba _ _ _ _).mono ?_;rintro e w' ⟨rfl,rfl⟩)
 go_ret
 exact⟨rfl,rfl⟩
theorem Qkz{width tag:Int}{T:ByteArray}(h:Qbr width tag T=false):Qcy width tag T=⟨#[]⟩:=by simp[Qcy,h]
theorem Qpq{width tag:Int}{T:ByteArray}(h:Qbr width tag T=true):Qcy width tag T=Qil width.toNat tag T:=by simp[Qcy,h]
theorem Qf3(width tag:Int)(T:ByteArray)(w:World)(hT:T.size<=maxLen) :
 Calls Tryz.prog 82 #[.int .i64 width,.int .i64 tag,.string T] w fun e w'=>e=.returned (.tuple #[.string (Qcy width tag T),.bool (Qbr width tag T)])/\Ext w w':=by
 unfold maxLen at hT
 cases b1:inR width 1 32
 · have Ho:=hU (show Qbr width tag T=false by simp[Qbr,b1])
   rw[Qkz Ho.out,Ho.out]
   go_enter Tryz.func82,Tryz.ntmps82
   go_wp2_with (first|(go_at_call 55;refine(Qbn _ _).mono ?_;rintro e w' ⟨rfl,rfl⟩)|(go_at_call 145;refine(Qkl _ _).mono ?_;rintro e w' ⟨rfl,rfl⟩))
   go_ret2
   exact⟨rfl,Below.refl _ _⟩
 cases b2:inR tag 0 255
 · have Ho:=hU (show Qbr width tag T=false by simp[Qbr,b2])
   rw[Qkz Ho.out,Ho.out]
   go_enter Tryz.func82,Tryz.ntmps82
   go_wp2_with (first|(go_at_call 55;refine(Qbn _ _).mono ?_;rintro e w' ⟨rfl,rfl⟩)|(go_at_call 145;refine(Qkl _ _).mono ?_;rintro e w' ⟨rfl,rfl⟩))
   go_ret2
   exact⟨rfl,Below.refl _ _⟩
 by_cases b3:T.size<=4000
 case neg=>
  have Ho:=hU (show Qbr width tag T=false by simp[Qbr,b3])
  rw[Qkz Ho.out,Ho.out]
  have hd:decide ((4000:Int)<(T.size:Int))=true:=by rw[decide_eq_true_eq];omega
  go_enter Tryz.func82,Tryz.ntmps82
  go_wp2_with (first|(go_at_call 55;refine(Qbn _ _).mono ?_;rintro e w' ⟨rfl,rfl⟩)|(go_at_call 145;refine(Qkl _ _).mono ?_;rintro e w' ⟨rfl,rfl⟩))
  go_ret2
  exact⟨rfl,Below.refl _ _⟩
 have Ho:=hU (show Qbr width tag T=true by simp[Qbr,b1,b2,b3])
 have hd:decide ((4000:Int)<(T.size:Int))=false:=by rw[decide_eq_false_iff_not];omega
 obtain⟨w0,w1⟩:=Qa0 b1
 obtain⟨t0,t1⟩:=Qa0 b2
 obtain⟨fin,hfin⟩:∃ fin,fin=Qil width.toNat tag T:=⟨_,rfl⟩
 rw[Qpq Ho.out,Ho.out,<-hfin]
 have Hf:=hU (show(Qd5 (mixT (T++padT T.size) (Qen tag) ((T.size+(padT T.size).size) / 64))).extract 0 width.toNat=fin by rw[hfin,Qil,ByteArray.size_append])
 have hps:(padT T.size).size<=73:=by rw[Qrk];unfold padZ;omega
 clear hfin
 go_enter Tryz.func82,Tryz.ntmps82
 go_wp2_with (first|(go_at_call 55;refine(Qbn _ _).mono ?_;rintro e w' ⟨rfl,rfl⟩)|(go_at_call 145;refine(Qkl _ _).mono ?_;rintro e w' ⟨rfl,rfl⟩))
 refine(Qoy tag _ t0 t1).mono ?_
 rintro e w2 ⟨rfl,he⟩
 go_wp2_with fail
 refine(Qxm _ _ (by omega) (by omega)).mono ?_
 rintro e w3 ⟨rfl,h1⟩
 replace he:=he.next h1;clear h1
 rw[Int.toNat_natCast]
 go_wp2_with fail
 refine(Qu7 (Qen tag) (T++padT T.size) _ (Qdb tag) (Qj6 tag) (by rw[ByteArray.size_append];omega)).mono ?_
 rintro e w4 ⟨rfl,h1⟩
 replace he:=he.next h1;clear h1
 go_wp2_with fail
 refine(Qqu width _ _ (by rw[Qgn,Qdb]) (Qna _ (Qj6 tag) _) w0 w1).mono ?_
 rintro e w5 ⟨rfl,h1⟩
 replace he:=he.next h1;clear h1
 rw[Hf.out]
 go_wp2_with fail
 go_ret2
 exact⟨rfl,he⟩
end Go.Proofs.YtbnkjgcpjeedfaaGreat

/-
  DiskW; Reopen2: No condition.
-/
import Derived.Test.YtbnkjgcpjeedfaaGreatTextsB
import Derived.Test.YtbnkjgcpjeedfaaGreatCutQ
import Derived.Test.YtbnkjgcpjeedfaaGreatSpFile
import Derived.Test.YtbnkjgcpjeedfaaGreatRecs
import Derived.Test.YtbnkjgcpjeedfaaGreatDisk0
import Derived.Test.YtbnkjgcpjeedfaaGreatNodeW
import Derived.Test.YtbnkjgcpjeedfaaGreatBrkNew
namespace Go.Proofs.YtbnkjgcpjeedfaaGreat
set_option maxHeartbeats 4000000
set_option maxRecDepth 100000
set_option linter.unusedSimpArgs false
open Go.RowKit
set_option linter.unusedVariables false
def fsA (F:Nat->ByteArray) (k:Nat):Array Value:=#[.string (if 0<k then F 0 else⟨#[]⟩),.string (if 1<k then F 1 else⟨#[]⟩),.string (if 2<k then F 2 else⟨#[]⟩)]
theorem Qx2(F:Nat->ByteArray):fsA F 3=#[.string (F 0),.string (F 1),.string (F 2)]:=rfl
theorem fsA_zero(F:Nat->ByteArray):fsA F 0=#[.string ⟨#[]⟩,.string ⟨#[]⟩,.string ⟨#[]⟩]:=rfl
theorem fsA_next(F:Nat->ByteArray){k:Nat}(hk:k<3):(fsA F k).setIfInBounds k (.string (F k))=fsA F (k+1):=by
 obtain rfl|rfl|rfl:k=0\/k=1\/k=2:=by omega
 all_goals rfl
theorem fsA_at(F:Nat->ByteArray){k:Nat}(hk:k<3):(fsA F k)[k]?=some (.string ⟨#[]⟩):=by
 obtain rfl|rfl|rfl:k=0\/k=1\/k=2:=by omega
 all_goals rfl
def txV (v0 v1 v2:Value) (k:Nat):Value:=if k=0 then v0 else if k=1 then v1 else v2
theorem Qr7(b:Qad)(g:Nat)(A0:Option Addr)(a0:Nat)(A1:Option Addr)(a1:Nat)(A2:Option Addr)(a2:Nat)(A3:Option Addr)(a3:Nat)(A4:Option Addr)(a4:Nat)(w:World)(hb:Blk w g 37 (brkV b A0 a0 A1 a1 A2 a2 A3 a3 A4 a4).toArray)(s:BArg AnyB w b A0 a0 A1 a1 A2 a2 A3 a3 A4 a4)(hB:Qar b=true) :
 Calls Tryz.prog 47 #[.pointer (some ⟨g,0,none⟩)] w fun e w'=>∃ q,e=.returned (.agg #[.slice (some ⟨q,0,none⟩) 3 3])/\w.heap.size<=q/\Blk w' q 9 #[.string (Qai (Qay b 0)),.string (Qai (Qay b 1)),.string (Qai (Qay b 2))]/\Ext w w':=by
 have K0:=hU (Blk.new w 52 #[.slice none 0 0])
 have He:=hU (Ext.new (Below.refl w.heap.size w) (.cells #[.slice none 0 0] 52))
 have TX:=hU (fun(W:World) (h:Ext w W)=>Qq9 b g A0 a0 A1 a1 A2 a2 A3 a3 A4 a4 W (hb.ext h) (s.ext h) (Qfb hB))
 have hf:=Qea hB
 obtain⟨F,hF⟩:∃ F:Nat->ByteArray,F=fun k=>Qai (Qay b k):=⟨_,rfl⟩
 have FL:∀(k:Nat),(Qay b k).length<=512/\∀ T∈Qay b k,T.size<=500:=fun k=>by
  obtain⟨hw,h0,hE,h1,hR,_,h2,hH⟩:=Qbh hB
  exact⟨Qhp h0 h1 h2 k,fun T hT=>(Qfl hE hR hH k T hT).2⟩
 have CF0:Hid (∀(k:Nat) (A:Option Addr) (c:Nat) (W:World),Qav W W.heap.size sone 1 A (Qay b k)->Calls Tryz.prog 106 #[.slice A (Qay b k).length c] W fun e w'=>e=.returned (.tuple #[.string (F k),.bool true])/\Ext W w'):=hU (fun k A c W h=>by
  have h2:=Qox A c (Qay b k) W h (by have:=(FL k).1;omega) (fun T hT=>by have:=(FL k).2 T hT;unfold maxLen;omega)
  rw[(hf k).1] at h2
  rw[hF];exact h2)
 have GOAL:#[.string (Qai (Qay b 0)),.string (Qai (Qay b 1)),.string (Qai (Qay b 2))]=fsA F 3:=by rw[Qx2,hF]
 rw[GOAL]
 have l0:(Qct b)=Qay b 0:=(Qgw b).symm
 have l1:(Qcz b)=Qay b 1:=(Qij b).symm
 have l2:(Qde b)=Qay b 2:=(Qii b).symm
 rw[l0,l1,l2] at TX
 clear hf FL GOAL l0 l1 l2 hF s hb hB
 go_enter Tryz.func47,Tryz.ntmps47
 go_wp2_with fail
 refine(Qtv _).mono ?_
 rintro e w1 ⟨q,rfl,hq,kq,h1⟩
 have k0:=K0.out.ext h1;have he:=He.out.next h1
 clear h1 K0 He
 have hq0:w.heap.size<=q:=by simp at hq;omega
 go_upto_region 2 with fail
 replace k0:=k0.alloc (.cells #[.slice (some ⟨q,0,none⟩) 3 3] 52)
 have hql:=kq.lt
 replace kq:=kq.alloc (.cells #[.slice (some ⟨q,0,none⟩) 3 3] 52)
 have kd:=Blk.new w1 52 #[.slice (some ⟨q,0,none⟩) 3 3]
 replace he:=he.new (.cells #[.slice (some ⟨q,0,none⟩) 3 3] 52)
 obtain⟨d,hd⟩:∃ d,d=w1.heap.size:=⟨_,rfl⟩
 rw[<-hd] at kd hql
 rw[<-hd]
 clear hd
 generalize w1.alloc (.cells #[.slice (some ⟨q,0,none⟩) 3 3] 52)=w2 at *
 go_wp2_with fail
 have kq2:=kq.lt
 refine(TX.out _ he).mono ?_
 rintro e w3 ⟨V0,c0,V1,c1,V2,c2,rfl,r0,r1,r2,h1⟩
 replace k0:=k0.ext h1;replace kq:=kq.ext h1;replace kd:=kd.ext h1;replace he:=he.next h1
 have hq2:q<w2.heap.size:=kq2
 have rd:∀ {A:Option Addr} {n c:Nat} {ts:List ByteArray} {W:World},RowT w2.heap.size w3 (.slice A n c) ts->Qaz q w3 W->Qav W W.heap.size sone 1 A ts:=fun {A n c ts W} h hx=>by
  obtain⟨A',c',e,hs⟩:=Qlj (Qd7 h hx hq2)
  cases e
  exact hs.reads
 have CF:Hid (∀(k:Nat),k<3->∀(W:World),Qaz q w3 W->Calls Tryz.prog 106 #[txV (.slice V0 (Qay b 0).length c0) (.slice V1 (Qay b 1).length c1) (.slice V2 (Qay b 2).length c2) k] W fun e w'=>e=.returned (.tuple #[.string (F k),.bool true])/\Ext W w'):=hU (fun k hk W h=>by
  obtain rfl|rfl|rfl:k=0\/k=1\/k=2:=by omega
  · exact CF0.out 0 V0 c0 W (rd r0 h)
  · exact CF0.out 1 V1 c1 W (rd r1 h)
  · exact CF0.out 2 V2 c2 W (rd r2 h))
 clear h1 TX CF0 rd r0 r1 r2
 obtain⟨v0,hv0⟩:∃ v,v=Value.slice V0 (Qay b 0).length c0:=⟨_,rfl⟩
 obtain⟨v1,hv1⟩:∃ v,v=Value.slice V1 (Qay b 1).length c1:=⟨_,rfl⟩
 obtain⟨v2,hv2⟩:∃ v,v=Value.slice V2 (Qay b 2).length c2:=⟨_,rfl⟩
 rw[<-hv0,<-hv1,<-hv2] at CF
 rw[<-hv0,<-hv1,<-hv2]
 clear hv0 hv1 hv2
 go_wp2_with fail
 have G0:=hU k0;have GQ:=hU (show Blk w3 q 9 (fsA F 0) by rw[fsA_zero];exact kq);have GD:=hU kd;have GE:=hU he
 clear k0 kq kd he
 have hqw:w.heap.size<q:=by simp at hq;omega
 go_loopw [9] (fun i wr=>∃ k:Nat,k<=3/\i=.int .i64 k/\Blk wr d 52 #[.slice (some ⟨q,0,none⟩) 3 3]/\Blk wr q 9 (fsA F k)/\Blk wr w.heap.size 52 #[.slice none 0 0]/\Qaz q w3 wr/\Ext w wr) (fun i _=>3-(intOf i).toNat)
 case atStart=>exact⟨0,Nat.zero_le _,rfl,GD.out,GQ.out,G0.out,Qaz.refl _ _,GE.out⟩
 case round=>
  clear G0 GQ GD GE
  obtain⟨k,hk,rfl,kd,kq,k0,h3,he⟩:=hrel
  by_cases hlt:k<3
  case neg=>
   obtain rfl:k=3:=by omega
   obtain⟨r1,f1⟩:=kd.rules
   obtain⟨r0,f0⟩:=k0.rules
   have hz:=k0.put 0 [.slice (some ⟨q,0,none⟩) 3 3] #[.slice (some ⟨q,0,none⟩) 3 3] (by simp) rfl
   have hx:=Qaa (W:=w) (g:=w.heap.size) (Nat.le_refl _) [.slice (some ⟨q,0,none⟩) 3 3] 0 _ he
   have hy:=kq.farCells (g':=w.heap.size) (by omega) [.slice (some ⟨q,0,none⟩) 3 3] 0
   have Z:=hU hz;have X:=hU hx;have Y:=hU hy
   clear hz hx hy kd kq k0
   go_wp2_with fail
   exact Qdc rfl rfl Z.out Tryz.underlying52 rfl (by kernel_rfl) rfl ⟨_,rfl,hq0,Y.out,X.out⟩
  have IX0:∀ W:World,(Instr.index 112 (.agg #[v0,v1,v2]) (.int .i64 0)).run Tryz.prog W=.ok v0 W:=fun _=>by kernel_rfl
  have IX1:∀ W:World,(Instr.index 112 (.agg #[v0,v1,v2]) (.int .i64 1)).run Tryz.prog W=.ok v1 W:=fun _=>by kernel_rfl
  have IX2:∀ W:World,(Instr.index 112 (.agg #[v0,v1,v2]) (.int .i64 2)).run Tryz.prog W=.ok v2 W:=fun _=>by kernel_rfl
  obtain⟨tx,htx⟩:∃ tx,tx=txV v0 v1 v2 k:=⟨_,rfl⟩
  have IX:∀ W:World,(Instr.index 112 (.agg #[v0,v1,v2]) (.int .i64 (k:Int))).run Tryz.prog W=.ok tx W:=by
   intro W
   rw[htx]
   obtain rfl|rfl|rfl:k=0\/k=1\/k=2:=by omega
   · exact IX0 W
   · exact IX1 W
   · exact IX2 W
  have CK:=hU (CF.out k hlt)
  rw[<-htx] at CK
  clear htx
  have hk3:(k:Int)<3:=by omega
  go_upto_region 5 with fail
  clear IX IX0 IX1 IX2
  obtain⟨T,hT⟩:∃ T,T=F k:=⟨_,rfl⟩
  rw[<-hT] at CK
  have HT:=hU hT
  clear hT
  refine wp_region_held_drew (S:=fun w'=>Blk w' d 52 #[.slice (some ⟨q,0,none⟩) 3 3]/\Blk w' w.heap.size 52 #[.slice none 0 0]/\Qaz q w3 w'/\Ext w w') (by kernel_rfl) ⟨kd.drew,k0.drew,h3.drewN 1,he.drew⟩ (fun hH=>?_)
  have KQ:=hU kq.drew
  clear kd kq k0 he h3
  generalize wr.drew=wd at *
  refine tk 0 (.pointer (some ⟨d,0,none⟩)) (some 14) hH ?_
  try simp only[zA]
  refine Qah 1 (.slice (some ⟨q,0,none⟩) 3 3) (some 15) rfl rfl (by kernel_rfl) (Or.inl ⟨by rfl,?y1⟩) hH ?r1
  case y1=>intro w' hS';obtain⟨r1,f1⟩:=hS'.1.rules;go_simp;try with_reducible rfl
  try simp only[zA]
  refine tk 2 (.int .i64 (k:Int)) (some 16) hH ?_
  try simp only[zA]
  refine tk 3 (tx) (some 17) hH ?_
  try simp only[zA]
  refine oneH 4 (oi:=_) (some 18) (by kernel_rfl) rfl rfl rfl (fun K' hK=>?_)
  refine⟨?_⟩
  rw[if_pos (by rfl)]
  go_simp
  refine(CK.out _ hH.2.2.1).mono ?_
  rintro e w4 ⟨rfl,h1⟩
  refine hK.out _ _ ⟨_,rfl⟩ ⟨hH.1.ext h1,hH.2.1.ext h1,hH.2.2.1.next (Qaz.of_ext h1),hH.2.2.2.next h1⟩ (fun hH2=>?_)
  replace KQ:=hU (KQ.out.ext h1)
  clear hK K' hH h1
  refine tk 5 (.tuple #[.string T,.bool true]) (some 13) hH2 ?_
  try simp only[zA]
  refine tk 6 (.string T) (some 19) hH2 ?_
  try simp only[zA]
  refine tk 7 (.bool true) (some 20) hH2 ?_
  try simp only[zA]
  refine tk 8 (.pointer (some ⟨q,k,none⟩)) (some 21) hH2 ?_
  try simp only[zA]
  refine oneH 9 (oi:=_) none (by kernel_rfl) rfl rfl rfl (fun K' hK=>?_)
  obtain⟨s0,s2,s3,s4⟩:=hH2
  have s1:=KQ.out
  have c2:w4.cell? ⟨q,k,none⟩=some (.string ⟨#[]⟩):=by
   rw[s1.cell];exact fsA_at F hlt
  have c3:=s1.frozen k
  have s1':Blk (w4.setCell ⟨q,k,none⟩ (.string T)) q 9 (fsA F (k+1)):=by
   have:=s1.set_ k (.string T)
   rw[HT.out] at this ⊢
   rw[fsA_next F hlt] at this
   exact this
  have hdq:d≠q:=by omega
  have FF:=hK.out { tmps:=_,defers:=_ } (w4.setCell ⟨q,k,none⟩ (.string T)) ⟨undef,rfl⟩ ⟨s0.far (p:=⟨q,k,none⟩) hdq _,s2.far (p:=⟨q,k,none⟩) (by show w.heap.size≠q;omega) _,Qaz.set_ s3 k _,Below.setCell s4 (p:=⟨q,k,none⟩) (by show w.heap.size<=q;omega) _⟩
  refine⟨?_⟩
  rw[if_pos (by rfl)]
  go_simp
  refine FF (fun hH3=>?_)
  have K5:=hU s1'
  clear FF hK K' s0 s1 s2 s3 s4 c2 c3 s1' KQ
  generalize w4.setCell ⟨q,k,none⟩ (.string T)=w5 at *
  refine wpAnyH_done (by kernel_rfl) ?_ _
  try simp only[zA]
  go_wp2_with fail
  go_roundw
  case rel=>exact⟨k+1,by omega,by go_num,hH3.1,K5.out,hH3.2.1,hH3.2.2.1,hH3.2.2.2⟩
  case measure=>simp[intOf];omega
theorem Qv2{p:Nat->Prop}(b:Qad)(M:List Value)(w:World)(hm:BRdL p b M w)(hB:Qar b=true) :
 Calls Tryz.prog 12 #[.agg M.toArray] w fun e w'=>∃ q,e=.returned (.tuple #[.agg #[.slice (some ⟨q,0,none⟩) 3 3],.bool true])/\w.heap.size<=q/\Blk w' q 9 #[.string (Qai (Qay b 0)),.string (Qai (Qay b 1)),.string (Qai (Qay b 2))]/\Ext w w':=by
 have tx:=Qfb hB
 have HM13:=hU hm.len
 obtain⟨X0,x0,X1,x1,X2,x2,X3,x3,X4,x4,hM,s⟩:=hm
 have s:=s.any
 have BOK:=hU (fun(W:World) (hW:Ext w W)=>Qda b X0 x0 X1 x1 X2 x2 X3 x3 X4 x4 W (s.ext hW).e (s.ext hW).r (s.ext hW).h (s.ext hW).u (s.ext hW).v tx.e tx.r tx.n.u tx.n.v)
 have DK:=hU (fun(g:Nat) (W:World) (hW:Ext w W) (hb:Blk W g 37 (brkV b X0 x0 X1 x1 X2 x2 X3 x3 X4 x4).toArray)=>Qr7 b g X0 x0 X1 x1 X2 x2 X3 x3 X4 x4 W hb (s.ext hW) hB)
 rw[<-hM] at BOK DK
 rw[hB] at BOK
 obtain⟨FS,hFS⟩:∃ FS:Array Value,FS=#[.string (Qai (Qay b 0)),.string (Qai (Qay b 1)),.string (Qai (Qay b 2))]:=⟨_,rfl⟩
 rw[<-hFS] at DK
 rw[<-hFS]
 clear hM s tx hB hFS
 obtain⟨B1,B2,he⟩:=Qcq w M.toArray #[.slice none 0 0] 37 52
 obtain⟨g1,hg1⟩:∃ g1,g1=w.heap.size:=⟨_,rfl⟩
 obtain⟨g2,hg2⟩:∃ g2,g2=w.heap.size+1:=⟨_,rfl⟩
 go_enter Tryz.func12,Tryz.ntmps12
 go_upto_region 1 with fail
 obtain⟨w3,hw3⟩:∃ w3,w3=(w.alloc (.cells M.toArray 37)).alloc (.cells #[.slice none 0 0] 52):=⟨_,rfl⟩
 rw[<-hw3] at B1 B2 he
 rw[<-hw3]
 rw[<-hg2] at B2
 rw[<-hg1] at B1
 rw[<-hg2,<-hg1]
 have hw:w.heap.size<=g2:=by omega
 clear hw3 hg1 hg2
 have RX:=hU (Blk.range B1)
 go_wp2_with (refine wpList_load_mid rfl 37 _ rfl g1 0 rfl M _ RX.out Tryz.underlying37 rfl (by rw[HM13.out];kernel_rfl) ?_)
 refine(BOK.out _ he).mono ?_
 rintro e w4 ⟨rfl,h1⟩
 replace he:=he.next h1;replace B1:=B1.ext h1;replace B2:=B2.ext h1
 clear h1 RX BOK
 have D4:=hU (DK.out g1 w4 he B1)
 have hs4:=he.size
 have h2l:=B2.lt
 clear DK B1
 go_wp2_with fail
 refine D4.out.mono ?_
 rintro e w5 ⟨q,rfl,hq,kq,h1⟩
 replace B2:=B2.ext h1;replace he:=he.next h1
 have Z1:=hU (B2.put 0 [.slice (some ⟨q,0,none⟩) 3 3] #[.slice (some ⟨q,0,none⟩) 3 3] (by simp) rfl)
 have Z2:=hU (kq.farCells (g':=g2) (by omega) [.slice (some ⟨q,0,none⟩) 3 3] 0)
 have Z3:=hU (Qaa (W:=w) hw [.slice (some ⟨q,0,none⟩) 3 3] 0 _ he)
 obtain⟨r0,f0⟩:=B2.rules
 have hqw:w.heap.size<=q:=by omega
 clear h1 kq he B2 D4
 go_wp2_with fail
 exact Qat rfl rfl Z1.out Tryz.underlying52 rfl (by kernel_rfl) rfl ⟨q,rfl,hqw,Z2.out,Z3.out⟩
theorem Qc2{P:Program}{fn:Func}{R:Ending->World->Prop}{a:Act}{w:World}{p u v:Tmp}{ty g t:Nat}{cs:Array Value}{d:TypeDesc}(h:fn.results=#[.cell p ty,.tmp u,.tmp v])
 (hp:a.tmps.getD p undef=.pointer (some ⟨g,0,none⟩)) (hB:Blk w g t cs) (hu:P.underlying ty=some d) (hd:(match d with|.struct _|.array _ _=>true|_=>false)=true) (hi:(P.info? ty).map (·.size)=some cs.size)
 (hdef:a.defers=[]) (hR:R (.returned (.tuple #[.agg cs,a.tmps.getD u undef,a.tmps.getD v undef])) w):bodyPost P fn R .ret a w:=by
 refine bodyPost_ret (v:=.tuple #[.agg cs,a.tmps.getD u undef,a.tmps.getD v undef]) ?_ hdef hR
 have hp':a.tmps[p]?.getD undef=.pointer (some ⟨g,0,none⟩):=by simpa using hp
 simp[results,h,hp',asAddr,Sem.run_bind,Result.andThen,run_loadVar_row w g t ty cs (0,0) d hB hu hd hi]
theorem Qqo(n:Int)(A:Option Addr)(c:Nat)(l:List ByteArray)(w:World)(hr:Qav w w.heap.size sone 1 A l)(hl:l.length<=1048576)(h1:(inR n 1 32&&Qch l)=false) :
 Calls Tryz.prog 19 #[.int .i64 n,.agg #[.slice A l.length c]] w fun e w'=>e=.returned (.tuple #[.agg #[.int .i64 0,.slice none 0 0,.slice none 0 0,.slice none 0 0,.int .i64 0,.slice none 0 0,.int .i64 0,.slice none 0 0,.int .i64 0,.int .i64 0,.string ⟨#[]⟩,.int .i64 0,.string ⟨#[]⟩],.slice none 0 0,.int .i64 1])/\Ext w w':=by
 have K0:=hU (Blk.new w 52 #[.slice A l.length c])
 have He0:=Ext.new (Below.refl w.heap.size w) (.cells #[.slice A l.length c] 52)
 have HR:=hU hr
 clear hr
 obtain⟨w0,hw0⟩:∃ w0,w0=w.alloc (.cells #[.slice A l.length c] 52):=⟨_,rfl⟩
 have hs0:w0.heap.size=w.heap.size+1:=by rw[hw0,World.size_alloc]
 rw[<-hw0] at He0
 have K0':=K0.out
 rw[<-hw0] at K0'
 have KA:=(K0'.alloc (.cells #[.int .i64 0,.slice none 0 0,.slice none 0 0,.slice none 0 0,.int .i64 0,.slice none 0 0,.int .i64 0,.slice none 0 0,.int .i64 0,.int .i64 0,.string ⟨#[]⟩,.int .i64 0,.string ⟨#[]⟩] 37))
 have KB:=(Blk.new w0 37 #[.int .i64 0,.slice none 0 0,.slice none 0 0,.slice none 0 0,.int .i64 0,.slice none 0 0,.int .i64 0,.slice none 0 0,.int .i64 0,.int .i64 0,.string ⟨#[]⟩,.int .i64 0,.string ⟨#[]⟩])
 have He:=He0.new (.cells #[.int .i64 0,.slice none 0 0,.slice none 0 0,.slice none 0 0,.int .i64 0,.slice none 0 0,.int .i64 0,.slice none 0 0,.int .i64 0,.int .i64 0,.string ⟨#[]⟩,.int .i64 0,.string ⟨#[]⟩] 37)
 obtain⟨w1,hw1⟩:∃ w1,w1=w0.alloc (.cells #[.int .i64 0,.slice none 0 0,.slice none 0 0,.slice none 0 0,.int .i64 0,.slice none 0 0,.int .i64 0,.slice none 0 0,.int .i64 0,.int .i64 0,.string ⟨#[]⟩,.int .i64 0,.string ⟨#[]⟩] 37):=⟨_,rfl⟩
 rw[<-hw1] at KA KB He
 have W0:=hU hw0;have W1:=hU hw1
 rw[hs0] at KB
 obtain⟨ac,af⟩:=KA.rules
 obtain⟨bc,bf⟩:=KB.rules
 clear K0 K0' He0 hw0 hw1 hs0
 have T3:=hU (KB.there 0 13 (by simp))
 obtain⟨w4,hw4,hz,hx⟩:∃ w4,w4=w1.setCells (w.heap.size+1) 0 [.int .i64 0,.slice none 0 0,.slice none 0 0,.slice none 0 0,.int .i64 0,.slice none 0 0,.int .i64 0,.slice none 0 0,.int .i64 0,.int .i64 0,.string ⟨#[]⟩,.int .i64 0,.string ⟨#[]⟩]/\Blk w4 (w.heap.size+1) 37 #[.int .i64 0,.slice none 0 0,.slice none 0 0,.slice none 0 0,.int .i64 0,.slice none 0 0,.int .i64 0,.slice none 0 0,.int .i64 0,.int .i64 0,.string ⟨#[]⟩,.int .i64 0,.string ⟨#[]⟩]/\Ext w w4:=⟨_,rfl,KB.put 0 [.int .i64 0,.slice none 0 0,.slice none 0 0,.slice none 0 0,.int .i64 0,.slice none 0 0,.int .i64 0,.slice none 0 0,.int .i64 0,.int .i64 0,.string ⟨#[]⟩,.int .i64 0,.string ⟨#[]⟩] #[.int .i64 0,.slice none 0 0,.slice none 0 0,.slice none 0 0,.int .i64 0,.slice none 0 0,.int .i64 0,.slice none 0 0,.int .i64 0,.int .i64 0,.string ⟨#[]⟩,.int .i64 0,.string ⟨#[]⟩] (by simp) rfl,Qaa (W:=w) (g:=w.heap.size+1) (by omega) [.int .i64 0,.slice none 0 0,.slice none 0 0,.slice none 0 0,.int .i64 0,.slice none 0 0,.int .i64 0,.slice none 0 0,.int .i64 0,.int .i64 0,.string ⟨#[]⟩,.int .i64 0,.string ⟨#[]⟩] 0 _ He⟩
 have HW:=hU hw4;have Z4:=hU hz;have X4:=hU hx
 clear hw4 hz hx
 cases b1:inR n 1 32
 · go_enter Tryz.func19,Tryz.ntmps19
   go_upto_region 1 with fail
   rw[<-W0.out]
   rw[<-W1.out]
   go_wp2_with (first|(go_at_call 55;refine(Qbn _ _).mono ?_;rintro e w' ⟨rfl,rfl⟩;rw[b1])|(refine Qac rfl 37 _ _ rfl rfl (w.heap.size+1) 0 [.int .i64 0,.slice none 0 0,.slice none 0 0,.slice none 0 0,.int .i64 0,.slice none 0 0,.int .i64 0,.slice none 0 0,.int .i64 0,.int .i64 0,.string ⟨#[]⟩,.int .i64 0,.string ⟨#[]⟩] rfl rfl T3.out (by kernel_rfl) (by rfl) ?_;rw[<-HW.out]))
   exact Qc2 rfl rfl Z4.out Tryz.underlying37 rfl (by kernel_rfl) rfl ⟨rfl,X4.out⟩
 · have q1:Qch l=false:=by rw[b1] at h1;simpa using h1
   clear HW Z4 X4 T3
   have KB:=hU KB
   have he:=He
   clear He
   go_enter Tryz.func19,Tryz.ntmps19
   go_upto_region 1 with fail
   rw[<-W0.out]
   rw[<-W1.out]
   go_wp2_with (go_at_call 55;refine(Qbn _ _).mono ?_;rintro e w' ⟨rfl,rfl⟩;rw[b1])
   refine(Qcr A c l _ (HR.out.ext he) hl).mono ?_
   rintro e w2 ⟨rfl,h2⟩
   rw[q1]
   have K2:=KB.out.ext h2
   have he2:=he.next h2
   have T4:=hU (K2.there 0 13 (by simp))
   obtain⟨w5,hw5,hz,hx⟩:∃ w5,w5=w2.setCells (w.heap.size+1) 0 [.int .i64 0,.slice none 0 0,.slice none 0 0,.slice none 0 0,.int .i64 0,.slice none 0 0,.int .i64 0,.slice none 0 0,.int .i64 0,.int .i64 0,.string ⟨#[]⟩,.int .i64 0,.string ⟨#[]⟩]/\Blk w5 (w.heap.size+1) 37 #[.int .i64 0,.slice none 0 0,.slice none 0 0,.slice none 0 0,.int .i64 0,.slice none 0 0,.int .i64 0,.slice none 0 0,.int .i64 0,.int .i64 0,.string ⟨#[]⟩,.int .i64 0,.string ⟨#[]⟩]/\Ext w w5:=⟨_,rfl,K2.put 0 [.int .i64 0,.slice none 0 0,.slice none 0 0,.slice none 0 0,.int .i64 0,.slice none 0 0,.int .i64 0,.slice none 0 0,.int .i64 0,.int .i64 0,.string ⟨#[]⟩,.int .i64 0,.string ⟨#[]⟩] #[.int .i64 0,.slice none 0 0,.slice none 0 0,.slice none 0 0,.int .i64 0,.slice none 0 0,.int .i64 0,.slice none 0 0,.int .i64 0,.int .i64 0,.string ⟨#[]⟩,.int .i64 0,.string ⟨#[]⟩] (by simp) rfl,Qaa (W:=w) (g:=w.heap.size+1) (by omega) [.int .i64 0,.slice none 0 0,.slice none 0 0,.slice none 0 0,.int .i64 0,.slice none 0 0,.int .i64 0,.slice none 0 0,.int .i64 0,.int .i64 0,.string ⟨#[]⟩,.int .i64 0,.string ⟨#[]⟩] 0 _ he2⟩
   have HW:=hU hw5;have Z4:=hU hz;have X4:=hU hx
   clear hw5 hz hx
   go_wp2_with (refine Qac rfl 37 _ _ rfl rfl (w.heap.size+1) 0 [.int .i64 0,.slice none 0 0,.slice none 0 0,.slice none 0 0,.int .i64 0,.slice none 0 0,.int .i64 0,.slice none 0 0,.int .i64 0,.int .i64 0,.string ⟨#[]⟩,.int .i64 0,.string ⟨#[]⟩] rfl rfl T4.out (by kernel_rfl) (by rfl) ?_;rw[<-HW.out])
   exact Qc2 rfl rfl Z4.out Tryz.underlying37 rfl (by kernel_rfl) rfl ⟨rfl,X4.out⟩
end Go.Proofs.YtbnkjgcpjeedfaaGreat

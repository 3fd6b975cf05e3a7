/-
  PubT; DidW; DidI; CutL; PutN; PutI; SpFetI0: No condition.
-/
import Derived.Test.YtbnkjgcpjeedfaaGreatPubB
import Derived.Test.YtbnkjgcpjeedfaaGreatRecs
import Derived.Test.YtbnkjgcpjeedfaaGreatRets
import Derived.Test.YtbnkjgcpjeedfaaGreatSpFile
import Derived.Test.YtbnkjgcpjeedfaaGreatCutQ
import Derived.Test.YtbnkjgcpjeedfaaGreatPubA
import Derived.Test.YtbnkjgcpjeedfaaGreatSpecR
import Derived.Test.YtbnkjgcpjeedfaaGreatRightC
namespace Go.Proofs.YtbnkjgcpjeedfaaGreat
set_option maxHeartbeats 8000000
set_option maxRecDepth 100000
set_option linter.unusedSimpArgs false
open Go.RowKit
set_option linter.unusedVariables false
theorem Qnl(b:Qad)(d:Qaf)(A0:Option Addr)(a0:Nat)(A1:Option Addr)(a1:Nat)(A2:Option Addr)(a2:Nat)(A3:Option Addr)(a3:Nat)(A4:Option Addr)(a4:Nat)(w:World)(s:BArg AnyB w b A0 a0 A1 a1 A2 a2 A3 a3 A4 a4)(ok0:∀ x∈b.log.entries,x.Ok)(ok1:∀ x∈b.receipts,x.Ok)(hz:BSz b)(hd:d.Ok) :
 Calls Tryz.prog 42 #[.agg (brkV b A0 a0 A1 a1 A2 a2 A3 a3 A4 a4).toArray,.string d.topic,.int .i64 d.time,.string d.key,.string d.body] w (Qym (pbB b d) (pbW b d) (pbL b d) (Qca b d) w):=by
 have S0:=hU s;have O0:=hU ok0;have O1:=hU ok1;have HZ:=hU hz;have HD:=hU hd
 have BOK:=hU (fun(W:World) (hW:Ext w W)=>Qda b A0 a0 A1 a1 A2 a2 A3 a3 A4 a4 W (s.ext hW).e (s.ext hW).r (s.ext hW).h (s.ext hW).u (s.ext hW).v ok0 ok1 hz.u hz.v)
 have CB:Hid (∀(W:World) (hW:Ext w W),Calls Tryz.prog 98 #[.agg (brkV b A0 a0 A1 a1 A2 a2 A3 a3 A4 a4).toArray] W fun e w'=>∃ V0 v0 V1 v1 V2 v2 V3 v3 V4 v4,e=.returned (.agg (brkV b V0 v0 V1 v1 V2 v2 V3 v3 V4 v4).toArray)/\Qb9 W.heap.size w' b (.slice V0 b.log.entries.length v0) (.slice V1 b.receipts.length v1) (.slice V2 b.heads.length v2) (.slice V3 b.sealed.leaves.peaks.length v3) (.slice V4 b.sealed.taken.peaks.length v4)/\(∀ x,(Value.slice V3 b.sealed.leaves.peaks.length v3).ownBlock=some x->(Value.slice V4 b.sealed.taken.peaks.length v4).ownBlock≠some x)/\Ext W w'):=hU (fun W hW=>Qgx b A0 a0 A1 a1 A2 a2 A3 a3 A4 a4 W (s.ext hW) hz)
 obtain⟨cs,hcs⟩:∃ cs,cs=(brkV b A0 a0 A1 a1 A2 a2 A3 a3 A4 a4):=⟨_,rfl⟩
 have HL13:=hU (show cs.length=13 by rw[hcs];rfl)
 rw[<-hcs] at BOK CB
 rw[<-hcs]
 clear s ok0 ok1 hz hd hcs
 obtain⟨B1,B3,he⟩:=Qcq w cs.toArray #[.int .i64 0,.slice none 0 0,.slice none 0 0,.slice none 0 0,.int .i64 0,.slice none 0 0,.int .i64 0,.slice none 0 0,.int .i64 0,.int .i64 0,.string ⟨#[]⟩,.int .i64 0,.string ⟨#[]⟩] 37 37
 obtain⟨g1,hg1⟩:∃ g1,g1=w.heap.size:=⟨_,rfl⟩
 obtain⟨g3,hg3⟩:∃ g3,g3=w.heap.size+1:=⟨_,rfl⟩
 go_enter Tryz.func42,Tryz.ntmps42
 go_upto_region 1 with fail
 obtain⟨w3,hw3⟩:∃ w3,w3=(w.alloc (.cells cs.toArray 37)).alloc (.cells #[.int .i64 0,.slice none 0 0,.slice none 0 0,.slice none 0 0,.int .i64 0,.slice none 0 0,.int .i64 0,.slice none 0 0,.int .i64 0,.int .i64 0,.string ⟨#[]⟩,.int .i64 0,.string ⟨#[]⟩] 37):=⟨_,rfl⟩
 rw[<-hw3] at B1 B3 he
 rw[<-hw3]
 rw[<-hg3] at B3
 rw[<-hg1] at B1
 rw[<-hg3,<-hg1]
 have h13:g1<g3:=by omega
 have hw:w.heap.size<=g3:=by omega
 clear hw3 hg1 hg3
 have RX:=hU (Blk.range B1)
 go_wp2_with (refine wpList_load_mid rfl 37 _ rfl g1 0 rfl cs _ RX.out Tryz.underlying37 rfl (by rw[HL13.out];kernel_rfl) ?_)
 refine(BOK.out _ he).mono ?_
 rintro e w4 ⟨rfl,h1⟩
 replace he:=he.next h1;replace B1:=B1.ext h1;replace B3:=B3.ext h1
 clear h1 RX BOK
 cases pb:Qar b
 · have E:=hU (show Qca b d=1 by rw[Qca,pb];rfl)
   have T4:=hU (B3.there 0 13 (by simp))
   obtain⟨wz,hwz,hz,hx⟩:∃ wz,wz=w4.setCells g3 0 [.int .i64 0,.slice none 0 0,.slice none 0 0,.slice none 0 0,.int .i64 0,.slice none 0 0,.int .i64 0,.slice none 0 0,.int .i64 0,.int .i64 0,.string ⟨#[]⟩,.int .i64 0,.string ⟨#[]⟩]/\Blk wz g3 37 #[.int .i64 0,.slice none 0 0,.slice none 0 0,.slice none 0 0,.int .i64 0,.slice none 0 0,.int .i64 0,.slice none 0 0,.int .i64 0,.int .i64 0,.string ⟨#[]⟩,.int .i64 0,.string ⟨#[]⟩]/\Ext w wz:=⟨_,rfl,Qas B3 [.int .i64 0,.slice none 0 0,.slice none 0 0,.slice none 0 0,.int .i64 0,.slice none 0 0,.int .i64 0,.slice none 0 0,.int .i64 0,.int .i64 0,.string ⟨#[]⟩,.int .i64 0,.string ⟨#[]⟩] rfl,Qaa hw [.int .i64 0,.slice none 0 0,.slice none 0 0,.slice none 0 0,.int .i64 0,.slice none 0 0,.int .i64 0,.slice none 0 0,.int .i64 0,.int .i64 0,.string ⟨#[]⟩,.int .i64 0,.string ⟨#[]⟩] 0 _ he⟩
   have HW:=hU hwz;have Z4:=hU hz;have X4:=hU hx
   clear hwz hz hx B3 he
   go_wp2_with (refine Qac rfl 37 _ _ rfl rfl g3 0 [.int .i64 0,.slice none 0 0,.slice none 0 0,.slice none 0 0,.int .i64 0,.slice none 0 0,.int .i64 0,.slice none 0 0,.int .i64 0,.int .i64 0,.string ⟨#[]⟩,.int .i64 0,.string ⟨#[]⟩] rfl rfl T4.out (by kernel_rfl) (by rfl) ?_;rw[<-HW.out])
   exact Qkc (s0:=10) (s1:=11) (s2:=12) (s3:=13) rfl rfl Z4.out Tryz.underlying37 rfl (by kernel_rfl) rfl (Qxi E.out (by decide) rfl (World.ownsRow_nil _ _ _ _) X4.out)
 have HPB:=hU pb
 have RX:=hU (Blk.range B1)
 go_wp2_with (refine wpList_load_mid rfl 37 _ rfl g1 0 rfl cs _ RX.out Tryz.underlying37 rfl (by rw[HL13.out];kernel_rfl) ?_)
 refine(CB.out _ he).mono ?_
 rintro e w5 ⟨V0,v0,V1,v1,V2,v2,V3,v3,V4,v4,rfl,rows,ap,h1⟩
 have hK:=B3.lt
 obtain⟨K,hKe⟩:∃ K,K=w4.heap.size:=⟨_,rfl⟩
 rw[<-hKe] at rows hK
 have h45:=h1.size
 rw[<-hKe] at h45
 replace he:=he.next h1;replace B1:=B1.ext h1;replace B3:=B3.ext h1
 have AP:=hU ap
 clear h1 RX CB ap hKe
 obtain⟨ns,hns⟩:∃ ns,ns=brkV b V0 v0 V1 v1 V2 v2 V3 v3 V4 v4:=⟨_,rfl⟩
 have HN13:=hU (show ns.length=13 by rw[hns];rfl)
 have HN1:=hU (show ns.all (·.oneCell')=true by rw[hns];rfl)
 rw[<-hns]
 have HNS:=hU hns
 clear hns
 have KZ:=Blk.new w5 37 #[.int .i64 0,.slice none 0 0,.slice none 0 0,.slice none 0 0,.int .i64 0,.slice none 0 0,.int .i64 0,.slice none 0 0,.int .i64 0,.int .i64 0,.string ⟨#[]⟩,.int .i64 0,.string ⟨#[]⟩]
 obtain⟨w6,hw6,B7,hx⟩:∃ w6,w6=(w5.alloc (.cells #[.int .i64 0,.slice none 0 0,.slice none 0 0,.slice none 0 0,.int .i64 0,.slice none 0 0,.int .i64 0,.slice none 0 0,.int .i64 0,.int .i64 0,.string ⟨#[]⟩,.int .i64 0,.string ⟨#[]⟩] 37)).setCells w5.heap.size 0 ns/\Blk w6 w5.heap.size 37 ns.toArray/\Ext w5 w6:=⟨_,rfl,Qas KZ ns (by rw[HN13.out];rfl),Qaa (W:=w5) (Nat.le_refl _) ns 0 _ (Ext.new (Below.refl _ _) _)⟩
 have T4:=hU (show World.there (w5.alloc (.cells #[.int .i64 0,.slice none 0 0,.slice none 0 0,.slice none 0 0,.int .i64 0,.slice none 0 0,.int .i64 0,.slice none 0 0,.int .i64 0,.int .i64 0,.string ⟨#[]⟩,.int .i64 0,.string ⟨#[]⟩] 37)) w5.heap.size 0 ns.length by rw[HN13.out];exact KZ.there 0 13 (by simp));have HW:=hU hw6
 have hl6:=B7.lt
 replace he:=he.next hx;replace B1:=B1.ext hx;replace B3:=B3.ext hx;replace rows:=rows.ext hx
 have RW:=hU rows
 clear hw6 hx KZ rows
 go_upto_region 4 with(refine Qac rfl 37 _ _ rfl rfl w5.heap.size 0 ns rfl rfl T4.out (by rw[HN13.out];kernel_rfl) HN1.out ?_;rw[<-HW.out])
 obtain⟨g7,hg7⟩:∃ g7,g7=w5.heap.size:=⟨_,rfl⟩
 rw[<-hg7] at B7 hl6 h45
 rw[<-hg7]
 clear T4 HW hg7 HN1
 have TK:=hU (Qs3 b d g7 V0 v0 V1 v1 V2 v2 V3 v3 V4 v4 K w6 (by have h:=B7;rw[HNS.out] at h;exact h) RW.out ⟨O0.out,O1.out,(Qbh HPB.out).2.2.2.2.2.1,HZ.out⟩ HD.out h45 (by omega))
 go_wp2_with fail
 refine TK.out.mono ?_
 rintro e w7 ⟨vw,hh⟩
 clear TK
 rcases hh with⟨hne,rfl,h1⟩|⟨h0,rfl,ve,B8,rows,ow,hbl⟩
 · obtain⟨cc,hcc⟩:∃ cc,cc=Qcu b.log.entries d:=⟨_,rfl⟩
   have E:=hU (show Qca b d=cc by rw[Qca,HPB.out,hcc];rfl)
   rw[<-hcc] at hne
   rw[<-hcc]
   clear hcc
   have z0:((cc:Int) != 0)=true:=by rw[bne_iff_ne];omega
   have HNE:=hU hne
   replace he:=he.next h1;replace B3:=B3.ext h1
   clear h1 B1 B7 hne
   have T4:=hU (B3.there 0 13 (by simp))
   obtain⟨wz,hwz,hz,hx⟩:∃ wz,wz=w7.setCells g3 0 [.int .i64 0,.slice none 0 0,.slice none 0 0,.slice none 0 0,.int .i64 0,.slice none 0 0,.int .i64 0,.slice none 0 0,.int .i64 0,.int .i64 0,.string ⟨#[]⟩,.int .i64 0,.string ⟨#[]⟩]/\Blk wz g3 37 #[.int .i64 0,.slice none 0 0,.slice none 0 0,.slice none 0 0,.int .i64 0,.slice none 0 0,.int .i64 0,.slice none 0 0,.int .i64 0,.int .i64 0,.string ⟨#[]⟩,.int .i64 0,.string ⟨#[]⟩]/\Ext w wz:=⟨_,rfl,Qas B3 [.int .i64 0,.slice none 0 0,.slice none 0 0,.slice none 0 0,.int .i64 0,.slice none 0 0,.int .i64 0,.slice none 0 0,.int .i64 0,.int .i64 0,.string ⟨#[]⟩,.int .i64 0,.string ⟨#[]⟩] rfl,Qaa hw [.int .i64 0,.slice none 0 0,.slice none 0 0,.slice none 0 0,.int .i64 0,.slice none 0 0,.int .i64 0,.slice none 0 0,.int .i64 0,.int .i64 0,.string ⟨#[]⟩,.int .i64 0,.string ⟨#[]⟩] 0 _ he⟩
   have HW:=hU hwz;have Z4:=hU hz;have X4:=hU hx
   clear hwz hz hx B3 he
   go_wp2_with (refine Qac rfl 37 _ _ rfl rfl g3 0 [.int .i64 0,.slice none 0 0,.slice none 0 0,.slice none 0 0,.int .i64 0,.slice none 0 0,.int .i64 0,.slice none 0 0,.int .i64 0,.int .i64 0,.string ⟨#[]⟩,.int .i64 0,.string ⟨#[]⟩] rfl rfl T4.out (by kernel_rfl) (by rfl) ?_;rw[<-HW.out])
   exact Qkc (s0:=10) (s1:=11) (s2:=12) (s3:=13) rfl rfl Z4.out Tryz.underlying37 rfl (by kernel_rfl) rfl (Qxi E.out HNE.out rfl (World.ownsRow_nil _ _ _ _) X4.out)
 · have E:=hU (show Qca b d=0 by rw[Qca,HPB.out];exact h0)
   clear h0
   replace he:=Qjz he hbl (by omega)
   replace B3:=Qoc hbl B3 (by omega)
   obtain⟨nl,hnl⟩:∃ nl,nl=b.log.entries.length:=⟨_,rfl⟩
   rw[<-hnl]
   have HNL:=hU hnl
   clear hnl
   obtain⟨ms,hms⟩:∃ ms,ms=Qe8 (pbB0 b d) ve (.slice V1 b.receipts.length v1) (.slice V2 b.heads.length v2) (.slice V3 b.sealed.leaves.peaks.length v3) (.slice V4 b.sealed.taken.peaks.length v4):=⟨_,rfl⟩
   obtain⟨VE,vec,rfl,_⟩:=Qae rows.e
   have HM13:=hU (show ms.length=13 by rw[hms];rfl)
   have HM1:=hU (show ms.all (·.oneCell')=true by rw[hms];rfl)
   rw[<-hms] at B8
   have HMS:=hU hms
   have RX:=hU (Blk.range B8)
   obtain⟨wz,hwz,hz,hx⟩:∃ wz,wz=w7.setCells g3 0 ms/\Blk wz g3 37 ms.toArray/\Ext w wz:=⟨_,rfl,Qas B3 ms (by rw[HM13.out];rfl),Qaa hw ms 0 _ he⟩
   have HW:=hU hwz;have T4:=hU (show w7.there g3 0 ms.length by rw[HM13.out];exact B3.there 0 13 (by simp));have Z4:=hU hz;have X4:=hU hx
   have RZ:Hid (Qb9 w.heap.size wz (pbB0 b d) (.slice VE (pbB0 b d).log.entries.length vec) (.slice V1 b.receipts.length v1) (.slice V2 b.heads.length v2) (.slice V3 b.sealed.leaves.peaks.length v3) (.slice V4 b.sealed.taken.peaks.length v4)):=hU (by rw[hwz];exact⟨Qa2 rows.e hK (by omega) ms 0,Qa2 rows.r hK (by omega) ms 0,Qa2 rows.h hK (by omega) ms 0,Qa2 rows.p hK (by omega) ms 0,Qa2 rows.q hK (by omega) ms 0⟩)
   have OZ:Hid (wz.ownsRow w.heap.size 50 3 vw 1 (Qcs b 0 (Qa3 (Qfw b d))).cells):=hU (by rw[hwz];exact Qa2 ow hK (by omega) ms 0)
   clear hwz hz hx rows ow hbl hms B1 B3 B7 B8 he
   go_wp2_with (first|(refine wpList_load_mid rfl 37 _ rfl g7 0 rfl ms _ RX.out Tryz.underlying37 rfl (by rw[HM13.out];kernel_rfl) ?_)|(refine Qac rfl 37 _ _ rfl rfl g3 0 ms rfl rfl T4.out (by rw[HM13.out];kernel_rfl) HM1.out ?_;rw[<-HW.out]))
   refine Qkc (s0:=10) (s1:=11) (s2:=12) (s3:=13) rfl rfl Z4.out Tryz.underlying37 rfl (by rw[List.size_toArray,HM13.out];kernel_rfl) rfl ?_
   rw[(Qhh E.out).1,(Qhh E.out).2.1,(Qhh E.out).2.2,E.out,<-HNL.out]
   exact⟨_,_,_,_,_,vw,by rw[HMS.out];rfl,RZ.out,AP.out,by simpa using OZ.out,X4.out⟩
def Qhd (K:Nat) (w:World) (V:Option Addr) (vc:Nat) (x:Qbs):Prop:=w.ownsRow K 50 3 (.slice V 1 vc) 1 x.cells
theorem Qhd.ext{K vc:Nat}{w w':World}{V:Option Addr}{x:Qbs}(h:Qhd K w V vc x)(he:Ext w w'):Qhd K w' V vc x:=Qag h he
theorem Qhd.low{K K' vc:Nat}{w:World}{V:Option Addr}{x:Qbs}(h:Qhd K w V vc x)(hK:K'<=K):Qhd K' w V vc x:=Qaj h hK
theorem Qhd.put{K vc g:Nat}{w:World}{V:Option Addr}{x:Qbs}{cs:Array Value}(h:Qhd K w V vc x)(hb:Blk w g 37 cs)(vs:List Value)(o:Nat):Qhd K (w.setCells g o vs) V vc x:=
 (Frm.setCells (Frm.refl (fun b=>b=g) w) (g:=g) (fun _=>rfl) vs o).own h (fun y hy=>Qew h hb (by decide) y hy)
theorem Qhd.reads{K vc:Nat}{w:World}{V:Option Addr}{x:Qbs}(h:Qhd K w V vc x):Qav w w.heap.size Qbs.cells 3 V [x]:=by
 have h2:w.ownsRow K 50 3 (.slice V [x].length vc) [x].length ([x].flatMap Qbs.cells):=by unfold Qhd at h;simpa using h
 exact Qbb.of_own h2
def Qsi (b:Qad) (cc:Nat) (w:World) (e:Ending) (w':World):Prop:=∃(N:List Value) (V:Option Addr) (nw vc:Nat),e=.returned (.tuple #[.agg N.toArray,.slice V nw vc,.int .i64 (cc:Int)])/\N.length=13/\N.all (·.oneCell')=true/\(cc=0->∃(b':Qad) (f:Nat) (t:ByteArray),Deed b b' f t/\nw=1/\1<=vc/\BVal w.heap.size b' N w'/\Qhd w.heap.size w' V vc ⟨(f:Int),((wasT b f).size:Int),Qax t⟩)/\Ext w w'
theorem Qx8{b b2:Qad}{W:List Qbs}{cc:Nat}{w w':World}{e:Ending}(h:Qol b2 W cc w e w')(hd:cc=0->∃(f:Nat) (t:ByteArray),Deed b b2 f t/\W=[⟨(f:Int),((wasT b f).size:Int),Qax t⟩]):Qsi b cc w e w':=by
 obtain⟨ve,vr,vh,v1,v2,vw,he,hr,ha,ho,hx⟩:=h
 obtain⟨V,vc,rfl,hvc⟩:=Qae ho
 have hv:=Qwb hr ha
 refine⟨_,V,W.length,vc,he,hv.len,hv.one,fun h0=>?_,hx⟩
 obtain⟨f,t,d,hW⟩:=hd h0
 subst hW
 exact⟨b2,f,t,d,rfl,hvc,hv,by simpa [Qhd] using ho⟩
theorem Qpw{b:Qad}(hB:Qar b=true)(f:Nat)(t:ByteArray):Qcs b f t=⟨(f:Int),((wasT b f).size:Int),Qax t⟩:=by
 obtain⟨hw,h0,hE,h1,hR,_,h2,hH⟩:=Qbh hB
 have fk:=(Qg8 (Qhp h0 h1 h2 f) (Qfl hE hR hH f)).2
 rw[Qcs,wasT,fk]
theorem did_take{b:Qad}{r:Qab}(hB:Qar b=true)(h:Qcp b r=0):∃(f:Nat) (t:ByteArray),Deed b (taB b r) f t/\taW b r=[⟨(f:Int),((wasT b f).size:Int),Qax t⟩]:=by
 obtain⟨h1,h2⟩:=Qjl h
 rw[h1,h2,Qpw hB]
 rw[Qcp,hB,if_pos rfl] at h
 exact⟨2,_,Qx9 hB h,rfl⟩
theorem did_seal{b:Qad}(hB:Qar b=true)(h:Qcw b=0):∃(f:Nat) (t:ByteArray),Deed b (snB b) f t/\snW b=[⟨(f:Int),((wasT b f).size:Int),Qax t⟩]:=by
 obtain⟨h1,h2⟩:=Qjp h
 rw[h1,h2,Qpw hB]
 rw[Qcw,hB,if_pos rfl] at h
 exact⟨1,_,Qya hB h,rfl⟩
theorem did_pub{b:Qad}{d:Qaf}(hB:Qar b=true)(h:Qca b d=0):∃(f:Nat) (t:ByteArray),Deed b (pbB b d) f t/\pbW b d=[⟨(f:Int),((wasT b f).size:Int),Qax t⟩]:=by
 obtain⟨h1,h2,_⟩:=Qhh h
 rw[h1,h2,Qpw hB]
 rw[Qca,hB,if_pos rfl] at h
 exact⟨0,_,deed_pub hB h,rfl⟩
def Qjf (b:Qad) (x:Int) (d:Qaf) (r:Qab):Nat:=if x=0 then Qca b d else if x=1 then Qcp b r else Qcw b
theorem take_did{p:Nat->Prop}{b:Qad}{M:List Value}{W:World}(r:Qab)(hr:r.Ok)(hB:Qar b=true)(h:BRdL p b M W) :
 Calls Tryz.prog 43 #[.agg M.toArray,.agg #[.string r.reader,.string r.topic,.int .i64 r.index]] W fun e w'=>Qsi b (Qcp b r) W e w':=by
 obtain⟨X0,x0,X1,x1,X2,x2,X3,x3,X4,x4,rfl,h2⟩:=h
 have tx:=Qfb hB
 refine(Qjv b r X0 x0 X1 x1 X2 x2 X3 x3 X4 x4 W h2.any tx.e tx.r tx.n hr).mono ?_
 intro e w' hA
 exact Qx8 hA (did_take hB)
theorem seal_did{p:Nat->Prop}{b:Qad}{M:List Value}{W:World}(hB:Qar b=true)(h:BRdL p b M W) :
 Calls Tryz.prog 44 #[.agg M.toArray] W fun e w'=>Qsi b (Qcw b) W e w':=by
 obtain⟨X0,x0,X1,x1,X2,x2,X3,x3,X4,x4,rfl,h2⟩:=h
 have tx:=Qfb hB
 refine(Qnj b X0 x0 X1 x1 X2 x2 X3 x3 X4 x4 W h2.any tx.e tx.r tx.n).mono ?_
 intro e w' hA
 exact Qx8 hA (did_seal hB)
theorem pub_did{p:Nat->Prop}{b:Qad}{M:List Value}{W:World}(d:Qaf)(hd:d.Ok)(hB:Qar b=true)(h:BRdL p b M W) :
 Calls Tryz.prog 42 #[.agg M.toArray,.string d.topic,.int .i64 d.time,.string d.key,.string d.body] W fun e w'=>∃(N:List Value) (V:Option Addr) (nw vc ll:Nat),e=.returned (.tuple #[.agg N.toArray,.slice V nw vc,.int .i64 (ll:Int),.int .i64 (Qca b d:Int)])/\N.length=13/\N.all (·.oneCell')=true/\(Qca b d=0->∃(b':Qad) (f:Nat) (t:ByteArray),Deed b b' f t/\nw=1/\1<=vc/\BVal W.heap.size b' N w'/\Qhd W.heap.size w' V vc ⟨(f:Int),((wasT b f).size:Int),Qax t⟩)/\Ext W w':=by
 obtain⟨X0,x0,X1,x1,X2,x2,X3,x3,X4,x4,rfl,h2⟩:=h
 have tx:=Qfb hB
 refine(Qnl b d X0 x0 X1 x1 X2 x2 X3 x3 X4 x4 W h2.any tx.e tx.r tx.n hd).mono ?_
 rintro e w' ⟨ve,vr,vh,v1,v2,vw,he,hr,ha,ho,hx⟩
 obtain⟨N,V,nw,vc,e2,a1,a2,a3,a4⟩:=Qx8 (b:=b) (b2:=pbB b d) (W:=pbW b d) (cc:=Qca b d) (w:=W) (w':=w') ⟨ve,vr,vh,v1,v2,vw,rfl,hr,ha,ho,hx⟩ (did_pub hB)
 simp only[Ending.returned.injEq,Value.tuple.injEq,Array.mk.injEq,List.cons.injEq,Value.agg.injEq] at e2
 obtain⟨e3,e4,_⟩:=e2
 rw[e3,e4] at he
 exact⟨N,V,nw,vc,_,he,a1,a2,a3,a4⟩
set_option maxHeartbeats 16000000
theorem did_good(b:Qad)(x:Int)(d:Qaf)(r:Qab)(M:List Value)(w:World)(hB:Qar b=true)(hm:BRdL AnyB b M w)(h13:M.length=13)(hd:d.Ok)(hr:r.Ok) :
 Calls Tryz.prog 10 #[.agg M.toArray,.int .i64 x,.agg #[.string d.topic,.int .i64 d.index,.int .i64 d.time,.string d.key,.string d.body],.agg #[.string r.reader,.string r.topic,.int .i64 r.index]] w fun e w'=>Qsi b (Qjf b x d r) w e w':=by
 have HM13:=hU h13
 have PU:=hU (fun(W:World) (h:Ext w W)=>pub_did d hd hB (hm.ext h))
 have TA:=hU (fun(W:World) (h:Ext w W)=>take_did r hr hB (hm.ext h))
 have SE:=hU (fun(W:World) (h:Ext w W)=>seal_did hB (hm.ext h))
 obtain⟨w1,hw1⟩:∃ w1,w1=(((w.alloc (.cells M.toArray 37)).alloc (.cells #[.string d.topic,.int .i64 d.index,.int .i64 d.time,.string d.key,.string d.body] 40)).alloc (.cells #[.string r.reader,.string r.topic,.int .i64 r.index] 42)).alloc (.cells #[.int .i64 0,.slice none 0 0,.slice none 0 0,.slice none 0 0,.int .i64 0,.slice none 0 0,.int .i64 0,.slice none 0 0,.int .i64 0,.int .i64 0,.string ⟨#[]⟩,.int .i64 0,.string ⟨#[]⟩] 37):=⟨_,rfl⟩
 have B4:Blk w1 w.heap.size 37 M.toArray:=by rw[hw1];exact(((Blk.new w _ _).alloc _).alloc _).alloc _
 have B6:Blk w1 (w.heap.size+1) 40 #[.string d.topic,.int .i64 d.index,.int .i64 d.time,.string d.key,.string d.body]:=by
  rw[hw1]
  have:=Blk.new (w.alloc (.cells M.toArray 37)) 40 #[.string d.topic,.int .i64 d.index,.int .i64 d.time,.string d.key,.string d.body]
  rw[World.size_alloc] at this
  exact(this.alloc _).alloc _
 have B7:Blk w1 (w.heap.size+1+1) 42 #[.string r.reader,.string r.topic,.int .i64 r.index]:=by
  rw[hw1]
  have:=Blk.new ((w.alloc (.cells M.toArray 37)).alloc (.cells #[.string d.topic,.int .i64 d.index,.int .i64 d.time,.string d.key,.string d.body] 40)) 42 #[.string r.reader,.string r.topic,.int .i64 r.index]
  rw[World.size_alloc,World.size_alloc] at this
  exact this.alloc _
 have B8:Blk w1 (w.heap.size+1+1+1) 37 #[.int .i64 0,.slice none 0 0,.slice none 0 0,.slice none 0 0,.int .i64 0,.slice none 0 0,.int .i64 0,.slice none 0 0,.int .i64 0,.int .i64 0,.string ⟨#[]⟩,.int .i64 0,.string ⟨#[]⟩]:=by
  rw[hw1]
  have:=Blk.new (((w.alloc (.cells M.toArray 37)).alloc (.cells #[.string d.topic,.int .i64 d.index,.int .i64 d.time,.string d.key,.string d.body] 40)).alloc (.cells #[.string r.reader,.string r.topic,.int .i64 r.index] 42)) 37 #[.int .i64 0,.slice none 0 0,.slice none 0 0,.slice none 0 0,.int .i64 0,.slice none 0 0,.int .i64 0,.slice none 0 0,.int .i64 0,.int .i64 0,.string ⟨#[]⟩,.int .i64 0,.string ⟨#[]⟩]
  rw[World.size_alloc,World.size_alloc,World.size_alloc] at this
  exact this
 have he:Ext w w1:=by rw[hw1];exact Ext.new (Ext.new (Ext.new (Ext.new (Below.refl w.heap.size w) _) _) _) _
 clear hm hB h13 hd hr
 go_enter Tryz.func10,Tryz.ntmps10
 go_upto_region 1 with fail
 rw[<-hw1]
 obtain⟨g,hg⟩:∃ g,g=w.heap.size:=⟨_,rfl⟩
 rw[<-hg] at B4 B6 B7 B8
 rw[<-hg]
 have hgw:w.heap.size<=g:=by omega
 clear hw1 hg
 have RX:=hU (Blk.range B4)
 have K6:=hU B6;have K7:=hU B7;have K8:=hU (show Blk w1 (g+3) 37 #[.int .i64 0,.slice none 0 0,.slice none 0 0,.slice none 0 0,.int .i64 0,.slice none 0 0,.int .i64 0,.slice none 0 0,.int .i64 0,.int .i64 0,.string ⟨#[]⟩,.int .i64 0,.string ⟨#[]⟩] from B8);have HE:=hU he
 have hs1:=he.size
 clear B4 B8 he
 by_cases x0:x=0
 · subst x0
   have HC:=hU (show Qjf b 0 d r=Qca b d by rw[Qjf,if_pos rfl])
   have P1:=hU (PU.out w1 HE.out)
   clear PU TA SE K7 B7
   obtain⟨r6,f6⟩:=B6.rules
   go_wp2_with (refine wpList_load_mid rfl 37 _ rfl g 0 rfl M _ RX.out Tryz.underlying37 rfl (by rw[HM13.out];kernel_rfl) ?_)
   refine P1.out.mono ?_
   rintro e w2 ⟨N,V,nw,vc,ll,rfl,n13,n1,dn,h1⟩
   replace K8:=hU (K8.out.ext h1);replace HE:=hU (HE.out.next h1)
   have N13':=hU n13;have N1':=hU n1
   have KZ:=Blk.new w2 37 #[.int .i64 0,.slice none 0 0,.slice none 0 0,.slice none 0 0,.int .i64 0,.slice none 0 0,.int .i64 0,.slice none 0 0,.int .i64 0,.int .i64 0,.string ⟨#[]⟩,.int .i64 0,.string ⟨#[]⟩]
   obtain⟨w3,hwa,K11,hx2⟩:∃ wa,wa=(w2.alloc (.cells #[.int .i64 0,.slice none 0 0,.slice none 0 0,.slice none 0 0,.int .i64 0,.slice none 0 0,.int .i64 0,.slice none 0 0,.int .i64 0,.int .i64 0,.string ⟨#[]⟩,.int .i64 0,.string ⟨#[]⟩] 37)).setCells w2.heap.size 0 N/\Blk wa w2.heap.size 37 N.toArray/\Ext w2 wa:=⟨_,rfl,Qas KZ N (by rw[n13];rfl),Qaa (W:=w2) (Nat.le_refl _) N 0 _ (Ext.new (Below.refl _ _) _)⟩
   have T4:=hU (show World.there (w2.alloc (.cells #[.int .i64 0,.slice none 0 0,.slice none 0 0,.slice none 0 0,.int .i64 0,.slice none 0 0,.int .i64 0,.slice none 0 0,.int .i64 0,.int .i64 0,.string ⟨#[]⟩,.int .i64 0,.string ⟨#[]⟩] 37)) w2.heap.size 0 N.length by rw[n13];exact KZ.there 0 13 (by simp));have HW:=hU hwa
   have RY:=hU (Blk.range K11)
   replace K8:=hU (K8.out.ext hx2);replace HE:=hU (HE.out.next hx2)
   have dn3:Qca b d=0->∃(b':Qad) (f:Nat) (t:ByteArray),Deed b b' f t/\nw=1/\1<=vc/\BVal w1.heap.size b' N w3/\Qhd w1.heap.size w3 V vc ⟨(f:Int),((wasT b f).size:Int),Qax t⟩:=fun h0=>by
    obtain⟨b',f,t,a1,a2,a3,a4,a5⟩:=dn h0
    exact⟨b',f,t,a1,a2,a3,a4.ext hx2,a5.ext hx2⟩
   clear dn h1 KZ hwa hx2 K11 r6 f6 P1 B6 K6 RX
   have dn:=dn3
   clear dn3
   go_upto_region 3 with(refine Qac rfl 37 _ _ rfl rfl w2.heap.size 0 N rfl rfl T4.out (by rw[N13'.out];kernel_rfl) N1'.out ?_;rw[<-HW.out])
   obtain⟨g11,hg11⟩:∃ g11,g11=w2.heap.size:=⟨_,rfl⟩
   rw[<-hg11] at RY
   rw[<-hg11]
   clear T4 HW hg11
   have N13:=hU n13;have N1:=hU n1
   obtain⟨w9,hw9,z8,zd,ze⟩:∃ w9,w9=w3.setCells (g+3) 0 N/\Blk w9 (g+3) 37 N.toArray/\(Qca b d=0->∃(b':Qad) (f:Nat) (t:ByteArray),Deed b b' f t/\nw=1/\1<=vc/\BVal w.heap.size b' N w9/\Qhd w.heap.size w9 V vc ⟨(f:Int),((wasT b f).size:Int),Qax t⟩)/\Ext w w9:=⟨_,rfl,Qas K8.out N (by rw[N13.out];rfl),fun h0=>by
    obtain⟨b',f,t,a1,a2,a3,a4,a5⟩:=dn h0
    exact⟨b',f,t,a1,a2,a3,(a4.low hs1).putB K8.out N 0,(a5.low hs1).put K8.out N 0⟩,Qaa (W:=w) (g:=g+3) (by omega) N 0 _ HE.out⟩
   have T8:=hU (show w3.there (g+3) 0 N.length by rw[N13.out];exact K8.out.there 0 13 (by simp));have HW9:=hU hw9
   have Z8:=hU z8;have ZD:=hU zd;have ZE:=hU ze
   clear n13 n1 dn hw9 z8 zd ze K8 HE
   go_wp2_with (first|(refine wpList_load_mid rfl 37 _ rfl g11 0 rfl N _ RY.out Tryz.underlying37 rfl (by rw[N13.out];kernel_rfl) ?_)|(refine Qac rfl 37 _ _ rfl rfl (g+3) 0 N rfl rfl T8.out (by rw[N13.out];kernel_rfl) N1.out ?_;rw[<-HW9.out]))
   exact Qh5 rfl rfl Z8.out Tryz.underlying37 rfl (by rw[List.size_toArray,N13.out];kernel_rfl) rfl ⟨N,V,nw,vc,(by rw[HC.out];rfl),N13.out,N1.out,(fun h=>ZD.out (by rw[<-HC.out];exact h)),ZE.out⟩
 by_cases x1:x=1
 · subst x1
   have HC:=hU (show Qjf b 1 d r=Qcp b r by rw[Qjf,if_neg (by decide),if_pos rfl])
   have P1:=hU (TA.out w1 HE.out)
   clear PU TA SE K6 B6 x0
   obtain⟨r7,f7⟩:=B7.rules
   go_wp2_with (refine wpList_load_mid rfl 37 _ rfl g 0 rfl M _ RX.out Tryz.underlying37 rfl (by rw[HM13.out];kernel_rfl) ?_)
   refine P1.out.mono ?_
   rintro e w2 ⟨N,V,nw,vc,rfl,n13,n1,dn,h1⟩
   replace K8:=hU (K8.out.ext h1);replace HE:=hU (HE.out.next h1)
   clear h1 r7 f7 P1 B7 K7 RX
   have N13:=hU n13;have N1:=hU n1
   obtain⟨w9,hw9,z8,zd,ze⟩:∃ w9,w9=w2.setCells (g+3) 0 N/\Blk w9 (g+3) 37 N.toArray/\(Qcp b r=0->∃(b':Qad) (f:Nat) (t:ByteArray),Deed b b' f t/\nw=1/\1<=vc/\BVal w.heap.size b' N w9/\Qhd w.heap.size w9 V vc ⟨(f:Int),((wasT b f).size:Int),Qax t⟩)/\Ext w w9:=⟨_,rfl,Qas K8.out N (by rw[N13.out];rfl),fun h0=>by
    obtain⟨b',f,t,a1,a2,a3,a4,a5⟩:=dn h0
    exact⟨b',f,t,a1,a2,a3,(a4.low hs1).putB K8.out N 0,(a5.low hs1).put K8.out N 0⟩,Qaa (W:=w) (g:=g+3) (by omega) N 0 _ HE.out⟩
   have T8:=hU (show w2.there (g+3) 0 N.length by rw[N13.out];exact K8.out.there 0 13 (by simp));have HW9:=hU hw9
   have Z8:=hU z8;have ZD:=hU zd;have ZE:=hU ze
   clear n13 n1 dn hw9 z8 zd ze K8 HE
   go_wp2_with (refine Qac rfl 37 _ _ rfl rfl (g+3) 0 N rfl rfl T8.out (by rw[N13.out];kernel_rfl) N1.out ?_;rw[<-HW9.out])
   exact Qh5 rfl rfl Z8.out Tryz.underlying37 rfl (by rw[List.size_toArray,N13.out];kernel_rfl) rfl ⟨N,V,nw,vc,(by rw[HC.out];rfl),N13.out,N1.out,(fun h=>ZD.out (by rw[<-HC.out];exact h)),ZE.out⟩
 · have HC:=hU (show Qjf b x d r=Qcw b by rw[Qjf,if_neg x0,if_neg x1])
   have P1:=hU (SE.out w1 HE.out)
   have e0:(x==0)=false:=beq_false_of_ne x0
   have e1:(x==1)=false:=beq_false_of_ne x1
   clear PU TA SE K6 B6 K7 B7
   go_wp2_with (refine wpList_load_mid rfl 37 _ rfl g 0 rfl M _ RX.out Tryz.underlying37 rfl (by rw[HM13.out];kernel_rfl) ?_)
   refine P1.out.mono ?_
   rintro e w2 ⟨N,V,nw,vc,rfl,n13,n1,dn,h1⟩
   replace K8:=hU (K8.out.ext h1);replace HE:=hU (HE.out.next h1)
   clear h1 P1 RX
   have N13:=hU n13;have N1:=hU n1
   obtain⟨w9,hw9,z8,zd,ze⟩:∃ w9,w9=w2.setCells (g+3) 0 N/\Blk w9 (g+3) 37 N.toArray/\(Qcw b=0->∃(b':Qad) (f:Nat) (t:ByteArray),Deed b b' f t/\nw=1/\1<=vc/\BVal w.heap.size b' N w9/\Qhd w.heap.size w9 V vc ⟨(f:Int),((wasT b f).size:Int),Qax t⟩)/\Ext w w9:=⟨_,rfl,Qas K8.out N (by rw[N13.out];rfl),fun h0=>by
    obtain⟨b',f,t,a1,a2,a3,a4,a5⟩:=dn h0
    exact⟨b',f,t,a1,a2,a3,(a4.low hs1).putB K8.out N 0,(a5.low hs1).put K8.out N 0⟩,Qaa (W:=w) (g:=g+3) (by omega) N 0 _ HE.out⟩
   have T8:=hU (show w2.there (g+3) 0 N.length by rw[N13.out];exact K8.out.there 0 13 (by simp));have HW9:=hU hw9
   have Z8:=hU z8;have ZD:=hU zd;have ZE:=hU ze
   clear n13 n1 dn hw9 z8 zd ze K8 HE
   go_wp2_with (refine Qac rfl 37 _ _ rfl rfl (g+3) 0 N rfl rfl T8.out (by rw[N13.out];kernel_rfl) N1.out ?_;rw[<-HW9.out])
   exact Qh5 rfl rfl Z8.out Tryz.underlying37 rfl (by rw[List.size_toArray,N13.out];kernel_rfl) rfl ⟨N,V,nw,vc,(by rw[HC.out];rfl),N13.out,N1.out,(fun h=>ZD.out (by rw[<-HC.out];exact h)),ZE.out⟩
theorem Qwi:∀ t∈Qj5,Qcn t=true:=by
 intro t ht
 simp only[Qj5,List.mem_cons,List.not_mem_nil,or_false] at ht
 rcases ht with rfl|rfl|rfl <;> decide
theorem pub_code{b:Qad}(h:RB 24 b){t s1 s2:ByteArray}{n:Nat}(ht:t∈Qj5)(hn:n<100)(h1:s1.size<=2)(h2:s2.size<=8):Qca b ⟨t,0,(n:Int),s1,s2⟩=0:=by
 rw[Qca,h.1,if_pos rfl]
 have hl:=h.2
 exact ad0 (Qwi t ht) (by simp only[Qef,inR,Bool.and_eq_true,decide_eq_true_eq];omega) (by omega)
theorem Qp3(A A':Option Addr)(c c':Nat)(l:List ByteArray)(w:World)(hr:SlF AnyB sone 1 w A l c)(hr':SlF AnyB sone 1 w A' l c')(hl:l.length<=1048576) :
 Calls Tryz.prog 13 #[.agg #[.slice A l.length c],.agg #[.slice A' l.length c']] w fun e w'=>e=.returned (.bool true)/\Ext w w':=by
 obtain⟨B0,B1,he⟩:=Qcq w #[.slice A l.length c] #[.slice A' l.length c'] 52 52
 have ST:=hU (Qjb A A' c c' l _ (hr.ext he) (hr'.ext he) hl)
 obtain⟨r0,f0⟩:=B0.rules
 obtain⟨r1,f1⟩:=B1.rules
 have HE:=hU he
 clear hr hr' he B0 B1
 go_enter Tryz.func13,Tryz.ntmps13
 go_wp2_with fail
 refine ST.out.mono ?_
 rintro e w2 ⟨rfl,h1⟩
 go_wp2_with fail
 go_ret
 exact⟨rfl,HE.out.next h1⟩
theorem Qj0(q c:Nat)(l:List ByteArray)(V:Option Addr)(vc:Nat)(w:World)(hl3:l.length=3)(hok:Qch l=true)(hr:SlF AnyB sone 1 w (some ⟨q,0,none⟩) l c) :
 Calls Tryz.prog 20 #[.agg #[.slice (some ⟨q,0,none⟩) 3 c],.slice V 0 vc] w fun e w'=>∃(q' c':Nat) (cur:Array Value),e=.returned (.tuple #[.agg #[.slice (some ⟨q',0,none⟩) 3 c'],.int .i64 0])/\Blk w' q' 9 cur/\cur.toList.take 3=l.flatMap sone/\w.heap.size<=q'/\Ext w w'/\(3<=c'/\c'<=maxLen):=by
 obtain⟨B0,B1,he⟩:=Qcq w #[.slice (some ⟨q,0,none⟩) 3 c] #[.slice none 0 0] 52 52
 have DO:=hU (fun(W:World) (h:Ext w W)=>Qcr (some ⟨q,0,none⟩) c l W (hr.ext h).reads (by omega))
 have CD:=hU (fun(W:World) (h:Ext w W)=>Qim (some ⟨q,0,none⟩) c l W (hr.ext h) (by omega))
 rw[hl3,hok] at DO
 rw[hl3] at CD
 clear hr hl3 hok
 obtain⟨g2,hg2⟩:∃ g2,g2=w.heap.size:=⟨_,rfl⟩
 obtain⟨g4,hg4⟩:∃ g4,g4=w.heap.size+1:=⟨_,rfl⟩
 go_enter Tryz.func20,Tryz.ntmps20
 go_upto_region 1 with fail
 obtain⟨w1,hw1⟩:∃ w1,w1=(w.alloc (.cells #[.slice (some ⟨q,0,none⟩) 3 c] 52)).alloc (.cells #[.slice none 0 0] 52):=⟨_,rfl⟩
 rw[<-hw1] at B0 B1 he
 rw[<-hw1]
 rw[<-hg4] at B1
 rw[<-hg2] at B0
 rw[<-hg4,<-hg2]
 have hw4:w.heap.size<=g4:=by omega
 clear hw1 hg2 hg4
 obtain⟨r0,f0⟩:=B0.rules
 go_wp2_with fail
 refine(DO.out _ he).mono ?_
 rintro e w2 ⟨rfl,h1⟩
 replace B0:=B0.ext h1;replace B1:=B1.ext h1;replace he:=he.next h1
 clear h1 DO r0 f0
 obtain⟨r0,f0⟩:=B0.rules
 go_wp2_with fail
 refine(CD.out _ he).mono ?_
 rintro e w3 ⟨v,rfl,ho,h1⟩
 have hs2:=he.size
 have h4l:=B1.lt
 replace B1:=B1.ext h1;replace he:=he.next h1
 rcases ho.2 with⟨_,h0⟩|⟨q',c',cur,rfl,hq',hh,hnc,hm,hsz,htk⟩
 · exact absurd h0 (by decide)
 have KQ:Blk w3 q' 9 cur:=hh
 have htk:cur.toList.take 3=l.flatMap sone:=htk
 have HCB:=hU (show 3<=c'/\c'<=maxLen from⟨hnc,hm⟩)
 clear h1 CD r0 f0 B0 ho hh hnc hm hsz
 have hx:=Ext.new (Below.refl w3.heap.size w3) (.cells #[.slice (some ⟨q',0,none⟩) 3 c'] 52)
 have K6:=Blk.new w3 52 #[.slice (some ⟨q',0,none⟩) 3 c']
 have hql:=KQ.lt
 replace B1:=B1.ext hx;replace he:=he.next hx;replace KQ:=KQ.ext hx
 clear hx
 go_upto_region 4 with fail
 obtain⟨g6,hg6⟩:∃ g6,g6=w3.heap.size:=⟨_,rfl⟩
 rw[<-hg6] at K6 hql
 rw[<-hg6]
 clear hg6
 generalize w3.alloc (.cells #[.slice (some ⟨q',0,none⟩) 3 c'] 52)=w4 at *
 have hqw:w.heap.size<=q':=by omega
 have h4q:g4<q':=by omega
 have G1:=hU B1;have G6:=hU K6;have GQ:=hU (show ∃ cur,Blk w4 q' 9 cur/\cur.toList.take 3=l.flatMap sone from⟨cur,KQ,htk⟩);have GE:=hU he
 clear B1 K6 KQ htk he hs2 h4l hq'
 go_upto_region 5 with fail
 go_loopw [22] (fun i wr=>i=.int .i64 0/\Blk wr g6 52 #[.slice (some ⟨q',0,none⟩) 3 c']/\Blk wr g4 52 #[.slice none 0 0]/\(∃ cur,Blk wr q' 9 cur/\cur.toList.take 3=l.flatMap sone)/\Ext w wr) (fun i _=>1-(intOf i).toNat)
 case atStart=>exact⟨rfl,G6.out,G1.out,GQ.out,GE.out⟩
 case round=>
  clear G1 G6 GQ GE
  obtain⟨rfl,k6,k4,⟨cu,kq,hcu⟩,he⟩:=hrel
  have Z1:=hU (k4.put 0 [.slice (some ⟨q',0,none⟩) 3 c'] #[.slice (some ⟨q',0,none⟩) 3 c'] (by simp) rfl)
  have Z2:=hU (kq.farCells (g':=g4) (by omega) [.slice (some ⟨q',0,none⟩) 3 c'] 0)
  have Z3:=hU (Qaa (W:=w) (g:=g4) hw4 [.slice (some ⟨q',0,none⟩) 3 c'] 0 _ he)
  have HCU:=hU hcu
  obtain⟨r1,f1⟩:=k6.rules
  obtain⟨r2,f2⟩:=k4.rules
  clear k6 k4 kq hcu he
  go_wp2_with fail
  exact Qat rfl rfl Z1.out Tryz.underlying52 rfl (by kernel_rfl) rfl ⟨q',c',cu,rfl,Z2.out,HCU.out,hqw,Z3.out,HCB.out⟩
set_option maxHeartbeats 4000000
theorem Qr6{q c k:Nat}{l:List ByteArray}{s:ByteArray}{w:World}(hr:SlF AnyB sone 1 w (some ⟨q,0,none⟩) l c)(hs:l[k]?=some s):w.cell? ⟨q,k,none⟩=some (.string s)/\q<w.heap.size:=by
 have hk:=(List.getElem?_eq_some_iff.1 hs).1
 obtain⟨b,off,e,hb,hc⟩:=Qbb.at_ hr.reads (k:=k) hk
 cases e
 have h:=hc 0 _ (Qa9 _ 1 Qbw l k 0 s hs (by omega))
 simp only[Nat.zero_add,Nat.mul_one,Nat.add_zero] at h
 exact⟨h,hb⟩
theorem Qsf(q c k p:Nat)(l:List ByteArray)(s t:ByteArray)(w:World)(hl3:l.length=3)(hok:Qch l=true)(hr:SlF AnyB sone 1 w (some ⟨q,0,none⟩) l c)(hk:k<3)(hs:l[k]?=some s)(ha:p<=s.size)(h3:s.size<=300000)(ht:t.size+p<=300000) :
 Calls Tryz.prog 237 #[.agg #[.slice (some ⟨q,0,none⟩) 3 c],.agg #[.int .i64 (k:Int),.int .i64 (p:Int),.string t]] w fun e w'=>e=.returned (.bool true)/\Ext w w':=by
 obtain⟨B0,B1,he⟩:=Qfc w #[.slice (some ⟨q,0,none⟩) 3 c] #[.int .i64 (k:Int),.int .i64 (p:Int),.string t] 52 50
 have DO:=hU (fun(W:World) (h:Ext w W)=>Qcr (some ⟨q,0,none⟩) c l W (hr.ext h).reads (by omega))
 rw[hl3,hok] at DO
 have FT:=hU (fun(W:World) (h:Ext w W)=>Qr5 q c k p s t W (Qr6 (hr.ext h) hs).1 (Qr6 (hr.ext h) hs).2 hk ha h3 ht)
 have HE:=hU he
 have K0:=hU B0;have K1:=hU B1
 clear hr hl3 hok hs he
 go_enter Tryz.func237,Tryz.ntmps237
 go_upto_region 1 with fail
 obtain⟨r0,f0⟩:=K0.out.rules
 obtain⟨r1,f1⟩:=K1.out.rules
 clear B0 B1
 generalize (w.alloc (.cells #[.slice (some ⟨q,0,none⟩) 3 c] 52)).alloc (.cells #[.int .i64 (k:Int),.int .i64 (p:Int),.string t] 50)=w1 at *
 go_wp2_with fail
 refine(DO.out _ HE.out).mono ?_
 rintro e w2 ⟨rfl,h1⟩
 obtain⟨r2,f2⟩:=(K0.out.ext h1).rules
 obtain⟨r3,f3⟩:=(K1.out.ext h1).rules
 replace HE:=hU (HE.out.next h1)
 clear h1 r0 f0 r1 f1
 go_wp2_with fail
 refine(FT.out _ HE.out).mono ?_
 rintro e w3 ⟨rfl,h1⟩
 go_wp2_with fail
 go_ret
 exact⟨rfl,HE.out.next h1⟩
theorem Put_good(q c k p:Nat)(l:List ByteArray)(s t:ByteArray)(w:World)(hl3:l.length=3)(hok:Qch l=true)(hr:SlF AnyB sone 1 w (some ⟨q,0,none⟩) l c)(hk:k<3)(hs:l[k]?=some s)(ha:p<=s.size)(h3:s.size<=300000)(ht:t.size+p<=300000) :
 Calls Tryz.prog 180 #[.agg #[.slice (some ⟨q,0,none⟩) 3 c],.agg #[.int .i64 (k:Int),.int .i64 (p:Int),.string t]] w fun e w'=>∃(q' c':Nat) (cur:Array Value),e=.returned (.tuple #[.agg #[.slice (some ⟨q',0,none⟩) 3 c'],.bool true])/\Blk w' q' 9 cur/\cur.toList.take 3=(l.set k (s.extract 0 p++t)).flatMap sone/\w.heap.size<=q'/\Ext w w'/\(3<=c'/\c'<=maxLen):=by
 have WO:=hU (fun(W:World) (h:Ext w W)=>Qsf q c k p l s t W hl3 hok (hr.ext h) hk hs ha h3 ht)
 have CD:=hU (fun(W:World) (h:Ext w W)=>Qim (some ⟨q,0,none⟩) c l W (hr.ext h) (by omega))
 rw[hl3] at CD
 have HS:=hU hs
 obtain⟨w1,hw1⟩:∃ w1,w1=((w.alloc (.cells #[.slice (some ⟨q,0,none⟩) 3 c] 52)).alloc (.cells #[.int .i64 (k:Int),.int .i64 (p:Int),.string t] 50)).alloc (.cells #[.slice none 0 0] 52):=⟨_,rfl⟩
 have B2:Blk w1 w.heap.size 52 #[.slice (some ⟨q,0,none⟩) 3 c]:=by rw[hw1];exact((Blk.new w _ _).alloc _).alloc _
 have B3:Blk w1 (w.heap.size+1) 50 #[.int .i64 (k:Int),.int .i64 (p:Int),.string t]:=by
  rw[hw1]
  have:=Blk.new (w.alloc (.cells #[.slice (some ⟨q,0,none⟩) 3 c] 52)) 50 #[.int .i64 (k:Int),.int .i64 (p:Int),.string t]
  rw[World.size_alloc] at this
  exact this.alloc _
 have B4:Blk w1 (w.heap.size+1+1) 52 #[.slice none 0 0]:=by
  rw[hw1]
  have:=Blk.new ((w.alloc (.cells #[.slice (some ⟨q,0,none⟩) 3 c] 52)).alloc (.cells #[.int .i64 (k:Int),.int .i64 (p:Int),.string t] 50)) 52 #[.slice none 0 0]
  rw[World.size_alloc,World.size_alloc] at this
  exact this
 have he:Ext w w1:=by rw[hw1];exact Ext.new (Ext.new (Ext.new (Below.refl w.heap.size w) _) _) _
 clear hr hl3 hok hs
 go_enter Tryz.func180,Tryz.ntmps180
 go_upto_region 1 with fail
 rw[<-hw1]
 obtain⟨g,hg⟩:∃ g,g=w.heap.size:=⟨_,rfl⟩
 rw[<-hg] at B2 B3 B4
 rw[<-hg]
 have hgw:w.heap.size<=g:=by omega
 have h4:w.heap.size<=g+1+1:=by omega
 clear hw1 hg
 obtain⟨r2,f2⟩:=B2.rules
 obtain⟨r3,f3⟩:=B3.rules
 go_wp2_with fail
 refine(WO.out _ he).mono ?_
 rintro e w2 ⟨rfl,h1⟩
 replace B2:=B2.ext h1;replace B3:=B3.ext h1;replace B4:=B4.ext h1;replace he:=he.next h1
 clear h1 WO r2 f2 r3 f3
 obtain⟨r2,f2⟩:=B2.rules
 go_wp2_with fail
 refine(CD.out _ he).mono ?_
 rintro e w3 ⟨v,rfl,ho,h1⟩
 have hs2:=he.size
 have h4l:=B4.lt
 replace B3:=B3.ext h1;replace B4:=B4.ext h1;replace he:=he.next h1
 rcases ho.2 with⟨_,h0⟩|⟨q',c',cur,rfl,hq',hh,hnc,hm,hsz,htk⟩
 · exact absurd h0 (by decide)
 have KQ:Blk w3 q' 9 cur:=hh
 have htk:cur.toList.take 3=l.flatMap sone:=htk
 have HCB:=hU (show 3<=c'/\c'<=maxLen from⟨hnc,hm⟩)
 clear h1 CD r2 f2 B2 ho hh hnc hm hsz
 have hx:=Ext.new (Below.refl w3.heap.size w3) (.cells #[.slice (some ⟨q',0,none⟩) 3 c'] 52)
 have K6:=Blk.new w3 52 #[.slice (some ⟨q',0,none⟩) 3 c']
 have hql:=KQ.lt
 replace B3:=B3.ext hx;replace B4:=B4.ext hx;replace he:=he.next hx;replace KQ:=KQ.ext hx
 clear hx
 go_upto_region 4 with fail
 obtain⟨g6,hg6⟩:∃ g6,g6=w3.heap.size:=⟨_,rfl⟩
 rw[<-hg6] at K6 hql
 rw[<-hg6]
 clear hg6
 generalize w3.alloc (.cells #[.slice (some ⟨q',0,none⟩) 3 c'] 52)=w4 at *
 have hqw:w.heap.size<=q':=by omega
 have h4q:g+1+1<q':=by omega
 have CU:=hU (cur_at htk hk HS.out)
 have PT:=hU (Qt9 g6 q' c' k p s t cur w4 K6 KQ (by omega) CU.out hk ha h3 ht)
 obtain⟨r3,f3⟩:=B3.rules
 go_wp2_with fail
 refine PT.out.mono ?_
 rintro e w5 ⟨v,rfl,kq2,kk⟩
 have E5:=hU (he.nextBut hqw kk)
 have K65:=K6.extBut kk (by omega)
 have K45:=B4.extBut kk (by omega)
 have HC5:=hU (Qrb (u:=s.extract 0 p++t) htk hk)
 have Z1:=hU (K45.put 0 [.slice (some ⟨q',0,none⟩) 3 c'] #[.slice (some ⟨q',0,none⟩) 3 c'] (by simp) rfl)
 have Z2:=hU (kq2.farCells (g':=g+1+1) (by omega) [.slice (some ⟨q',0,none⟩) 3 c'] 0)
 have Z3:=hU (Qaa (W:=w) (g:=g+1+1) h4 [.slice (some ⟨q',0,none⟩) 3 c'] 0 _ E5.out)
 clear r3 f3 kk he B3 B4 K6 KQ PT htk
 obtain⟨r1,f1⟩:=K65.rules
 obtain⟨r2,f2⟩:=K45.rules
 clear K65 K45 kq2
 go_wp2_with fail
 exact Qat rfl rfl Z1.out Tryz.underlying52 rfl (by kernel_rfl) rfl ⟨q',c',_,rfl,Z2.out,HC5.out,hqw,Z3.out,HCB.out⟩
theorem Qp4{P:Program}{t:TypeId}(A:Option Addr)(len c m size:Nat)(ht:P.underlying t=some (.slice (P.elem t)))(hs:∀ W:World,(sizeOf (P.elem t)).run P W=.ok size W)(hm:m<=c)(W:World) :
 (Instr.slice t (.slice A len c) none (some (.int .i64 (m:Int))) none).run P W=.ok (.slice A m c) W:=by
 rw[run_slice_h (P:=P) W t A len c ht .i64 (m:Int) (by omega) (by omega),hs]
 simp[Result.andThen,sliced]
 intro _
 cases A with
 | none=>rfl
 | some a=>simp[Addr.add]
end Go.Proofs.YtbnkjgcpjeedfaaGreat

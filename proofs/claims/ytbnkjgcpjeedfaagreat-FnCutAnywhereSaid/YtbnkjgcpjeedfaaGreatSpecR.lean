/-
  TakeT; Root5; Bits; PathOps; Root6; SpecR: No condition.
-/
import Derived.Test.YtbnkjgcpjeedfaaGreatSealW
import Derived.Test.YtbnkjgcpjeedfaaGreatRightP
import Derived.Test.YtbnkjgcpjeedfaaGreatSpFile
import Derived.Test.YtbnkjgcpjeedfaaGreatLeaf
import Derived.Test.YtbnkjgcpjeedfaaGreatNodeW
import Derived.Test.YtbnkjgcpjeedfaaGreatHeadOps
import Derived.Test.YtbnkjgcpjeedfaaGreatRowTx
import Derived.Test.YtbnkjgcpjeedfaaGreatMem
import Derived.Laws.MathBits
import Derived.Test.YtbnkjgcpjeedfaaGreatBunch
import Derived.Test.YtbnkjgcpjeedfaaGreatBrkV
import Derived.Test.YtbnkjgcpjeedfaaGreatLeafI
import Derived.Test.YtbnkjgcpjeedfaaGreatReopen0
import Derived.Test.YtbnkjgcpjeedfaaGreatHeadsOks
namespace Go.Proofs.YtbnkjgcpjeedfaaGreat
set_option maxHeartbeats 8000000
set_option maxRecDepth 100000
set_option linter.unusedSimpArgs false
open Go.RowKit
set_option linter.unusedVariables false
def Qcp (b:Qad) (r:Qab):Nat:=if Qar b then Qee b r else 1
def taB (b:Qad) (r:Qab):Qad:=if Qcp b r=0 then tkB b r else noB
def taW (b:Qad) (r:Qab):List Qbs:=if Qcp b r=0 then[Qcs b 2 (Qan r)] else[]
theorem ta_bad{b:Qad}{r:Qab}{k:Nat}(h:Qcp b r=k)(h0:k≠0):taB b r=noB/\taW b r=[]:=by
 have:¬ Qcp b r=0:=by omega
 exact⟨by rw[taB,if_neg this],by rw[taW,if_neg this]⟩
theorem Qjl{b:Qad}{r:Qab}(h:Qcp b r=0):taB b r=tkB b r/\taW b r=[Qcs b 2 (Qan r)]:=⟨by rw[taB,if_pos h],by rw[taW,if_pos h]⟩
theorem Qo7{b:Qad}{r:Qab}{k:Nat}{w w':World}{e:Ending}{vw:Value}(h:Qcp b r=k)(h0:k≠0)(he:e=.returned (.tuple #[.agg #[.int .i64 0,.slice none 0 0,.slice none 0 0,.slice none 0 0,.int .i64 0,.slice none 0 0,.int .i64 0,.slice none 0 0,.int .i64 0,.int .i64 0,.string ⟨#[]⟩,.int .i64 0,.string ⟨#[]⟩],vw,.int .i64 (k:Int)]))(ho:w'.ownsRow w.heap.size 50 3 vw 0 [])(hx:Ext w w'):Qol (taB b r) (taW b r) (Qcp b r) w e w':=by
 rw[(ta_bad h h0).1,(ta_bad h h0).2,h];exact Qol.bad he ho hx
theorem Qjv(b:Qad)(r:Qab)(A0:Option Addr)(a0:Nat)(A1:Option Addr)(a1:Nat)(A2:Option Addr)(a2:Nat)(A3:Option Addr)(a3:Nat)(A4:Option Addr)(a4:Nat)(w:World)(s:BArg AnyB w b A0 a0 A1 a1 A2 a2 A3 a3 A4 a4)(ok0:∀ x∈b.log.entries,x.Ok)(ok1:∀ x∈b.receipts,x.Ok)(hz:BSz b)(hr:r.Ok) :
 Calls Tryz.prog 43 #[.agg (brkV b A0 a0 A1 a1 A2 a2 A3 a3 A4 a4).toArray,.agg #[.string r.reader,.string r.topic,.int .i64 r.index]] w (Qol (taB b r) (taW b r) (Qcp b r) w):=by
 have S0:=hU s;have O0:=hU ok0;have O1:=hU ok1;have HZ:=hU hz;have HRo:=hU hr
 have BOK:=hU (fun(W:World) (hW:Ext w W)=>Qda b A0 a0 A1 a1 A2 a2 A3 a3 A4 a4 W (s.ext hW).e (s.ext hW).r (s.ext hW).h (s.ext hW).u (s.ext hW).v ok0 ok1 hz.u hz.v)
 have CB:Hid (∀(W:World) (hW:Ext w W),Calls Tryz.prog 98 #[.agg (brkV b A0 a0 A1 a1 A2 a2 A3 a3 A4 a4).toArray] W fun e w'=>∃ V0 v0 V1 v1 V2 v2 V3 v3 V4 v4,e=.returned (.agg (brkV b V0 v0 V1 v1 V2 v2 V3 v3 V4 v4).toArray)/\Qb9 W.heap.size w' b (.slice V0 b.log.entries.length v0) (.slice V1 b.receipts.length v1) (.slice V2 b.heads.length v2) (.slice V3 b.sealed.leaves.peaks.length v3) (.slice V4 b.sealed.taken.peaks.length v4)/\(∀ x,(Value.slice V3 b.sealed.leaves.peaks.length v3).ownBlock=some x->(Value.slice V4 b.sealed.taken.peaks.length v4).ownBlock≠some x)/\Ext W w'):=hU (fun W hW=>Qgx b A0 a0 A1 a1 A2 a2 A3 a3 A4 a4 W (s.ext hW) hz)
 obtain⟨cs,hcs⟩:∃ cs,cs=(brkV b A0 a0 A1 a1 A2 a2 A3 a3 A4 a4):=⟨_,rfl⟩
 have HL13:=hU (show cs.length=13 by rw[hcs];rfl)
 rw[<-hcs] at BOK CB
 rw[<-hcs]
 clear s ok0 ok1 hz hr hcs
 obtain⟨B1,B2,B3,he⟩:=Qo5 w cs.toArray #[.string r.reader,.string r.topic,.int .i64 r.index] #[.int .i64 0,.slice none 0 0,.slice none 0 0,.slice none 0 0,.int .i64 0,.slice none 0 0,.int .i64 0,.slice none 0 0,.int .i64 0,.int .i64 0,.string ⟨#[]⟩,.int .i64 0,.string ⟨#[]⟩] 37 42 37
 obtain⟨g1,hg1⟩:∃ g1,g1=w.heap.size:=⟨_,rfl⟩
 obtain⟨g2,hg2⟩:∃ g2,g2=w.heap.size+1:=⟨_,rfl⟩
 obtain⟨g3,hg3⟩:∃ g3,g3=w.heap.size+1+1:=⟨_,rfl⟩
 go_enter Tryz.func43,Tryz.ntmps43
 go_upto_region 1 with fail
 obtain⟨w3,hw3⟩:∃ w3,w3=((w.alloc (.cells cs.toArray 37)).alloc (.cells #[.string r.reader,.string r.topic,.int .i64 r.index] 42)).alloc (.cells #[.int .i64 0,.slice none 0 0,.slice none 0 0,.slice none 0 0,.int .i64 0,.slice none 0 0,.int .i64 0,.slice none 0 0,.int .i64 0,.int .i64 0,.string ⟨#[]⟩,.int .i64 0,.string ⟨#[]⟩] 37):=⟨_,rfl⟩
 rw[<-hw3] at B1 B2 B3 he
 rw[<-hw3]
 rw[<-hg3] at B3
 rw[<-hg2] at B2
 rw[<-hg1] at B1
 rw[<-hg3,<-hg2,<-hg1]
 have h13:g1<g3:=by omega
 have h23:g2<g3:=by omega
 have hw:w.heap.size<=g3:=by omega
 clear hw3 hg1 hg2 hg3
 have RX:=hU (Blk.range B1)
 go_wp2_with (refine wpList_load_mid rfl 37 _ rfl g1 0 rfl cs _ RX.out Tryz.underlying37 rfl (by rw[HL13.out];kernel_rfl) ?_)
 refine(BOK.out _ he).mono ?_
 rintro e w4 ⟨rfl,h1⟩
 replace he:=he.next h1;replace B1:=B1.ext h1;replace B2:=B2.ext h1;replace B3:=B3.ext h1
 clear h1 RX BOK
 cases pb:Qar b
 · have E:=hU (show Qcp b r=1 by rw[Qcp,pb];rfl)
   have T4:=hU (B3.there 0 13 (by simp))
   obtain⟨wz,hwz,hz,hx⟩:∃ wz,wz=w4.setCells g3 0 [.int .i64 0,.slice none 0 0,.slice none 0 0,.slice none 0 0,.int .i64 0,.slice none 0 0,.int .i64 0,.slice none 0 0,.int .i64 0,.int .i64 0,.string ⟨#[]⟩,.int .i64 0,.string ⟨#[]⟩]/\Blk wz g3 37 #[.int .i64 0,.slice none 0 0,.slice none 0 0,.slice none 0 0,.int .i64 0,.slice none 0 0,.int .i64 0,.slice none 0 0,.int .i64 0,.int .i64 0,.string ⟨#[]⟩,.int .i64 0,.string ⟨#[]⟩]/\Ext w wz:=⟨_,rfl,Qas B3 [.int .i64 0,.slice none 0 0,.slice none 0 0,.slice none 0 0,.int .i64 0,.slice none 0 0,.int .i64 0,.slice none 0 0,.int .i64 0,.int .i64 0,.string ⟨#[]⟩,.int .i64 0,.string ⟨#[]⟩] rfl,Qaa hw [.int .i64 0,.slice none 0 0,.slice none 0 0,.slice none 0 0,.int .i64 0,.slice none 0 0,.int .i64 0,.slice none 0 0,.int .i64 0,.int .i64 0,.string ⟨#[]⟩,.int .i64 0,.string ⟨#[]⟩] 0 _ he⟩
   have HW:=hU hwz;have Z4:=hU hz;have X4:=hU hx
   clear hwz hz hx B3 he
   go_wp2_with (refine Qac rfl 37 _ _ rfl rfl g3 0 [.int .i64 0,.slice none 0 0,.slice none 0 0,.slice none 0 0,.int .i64 0,.slice none 0 0,.int .i64 0,.slice none 0 0,.int .i64 0,.int .i64 0,.string ⟨#[]⟩,.int .i64 0,.string ⟨#[]⟩] rfl rfl T4.out (by kernel_rfl) (by rfl) ?_;rw[<-HW.out])
   exact Qd6 rfl rfl Z4.out Tryz.underlying37 rfl (by kernel_rfl) rfl (Qo7 E.out (by decide) rfl (World.ownsRow_nil _ _ _ _) X4.out)
 have HPB:=hU pb
 have RX:=hU (Blk.range B1)
 go_wp2_with (refine wpList_load_mid rfl 37 _ rfl g1 0 rfl cs _ RX.out Tryz.underlying37 rfl (by rw[HL13.out];kernel_rfl) ?_)
 refine(CB.out _ he).mono ?_
 rintro e w5 ⟨V0,v0,V1,v1,V2,v2,V3,v3,V4,v4,rfl,rows,ap,h1⟩
 have hK:=B3.lt
 obtain⟨K,hKe⟩:∃ K,K=w4.heap.size:=⟨_,rfl⟩
 rw[<-hKe] at rows hK
 have h45:=h1.size
 rw[<-hKe] at h45
 replace he:=he.next h1;replace B1:=B1.ext h1;replace B2:=B2.ext h1;replace B3:=B3.ext h1
 have AP:=hU ap
 clear h1 RX CB ap hKe
 obtain⟨ns,hns⟩:∃ ns,ns=brkV b V0 v0 V1 v1 V2 v2 V3 v3 V4 v4:=⟨_,rfl⟩
 have HN13:=hU (show ns.length=13 by rw[hns];rfl)
 have HN1:=hU (show ns.all (·.oneCell')=true by rw[hns];rfl)
 rw[<-hns]
 have HNS:=hU hns
 clear hns
 have KZ:=Blk.new w5 37 #[.int .i64 0,.slice none 0 0,.slice none 0 0,.slice none 0 0,.int .i64 0,.slice none 0 0,.int .i64 0,.slice none 0 0,.int .i64 0,.int .i64 0,.string ⟨#[]⟩,.int .i64 0,.string ⟨#[]⟩]
 obtain⟨w6,hw6,B7,hx⟩:∃ w6,w6=(w5.alloc (.cells #[.int .i64 0,.slice none 0 0,.slice none 0 0,.slice none 0 0,.int .i64 0,.slice none 0 0,.int .i64 0,.slice none 0 0,.int .i64 0,.int .i64 0,.string ⟨#[]⟩,.int .i64 0,.string ⟨#[]⟩] 37)).setCells w5.heap.size 0 ns/\Blk w6 w5.heap.size 37 ns.toArray/\Ext w5 w6:=⟨_,rfl,Qas KZ ns (by rw[HN13.out];rfl),Qaa (W:=w5) (Nat.le_refl _) ns 0 _ (Ext.new (Below.refl _ _) _)⟩
 have T4:=hU (show World.there (w5.alloc (.cells #[.int .i64 0,.slice none 0 0,.slice none 0 0,.slice none 0 0,.int .i64 0,.slice none 0 0,.int .i64 0,.slice none 0 0,.int .i64 0,.int .i64 0,.string ⟨#[]⟩,.int .i64 0,.string ⟨#[]⟩] 37)) w5.heap.size 0 ns.length by rw[HN13.out];exact KZ.there 0 13 (by simp));have HW:=hU hw6
 have hl6:=B7.lt
 replace he:=he.next hx;replace B1:=B1.ext hx;replace B2:=B2.ext hx;replace B3:=B3.ext hx;replace rows:=rows.ext hx
 have RW:=hU rows
 clear hw6 hx KZ rows
 go_upto_region 4 with(refine Qac rfl 37 _ _ rfl rfl w5.heap.size 0 ns rfl rfl T4.out (by rw[HN13.out];kernel_rfl) HN1.out ?_;rw[<-HW.out])
 obtain⟨g7,hg7⟩:∃ g7,g7=w5.heap.size:=⟨_,rfl⟩
 rw[<-hg7] at B7 hl6 h45
 rw[<-hg7]
 clear T4 HW hg7 HN1
 obtain⟨r2,f2⟩:=B2.rules
 have TK:=hU (take_any b r g7 V0 v0 V1 v1 V2 v2 V3 v3 V4 v4 K w6 (by have h:=B7;rw[HNS.out] at h;exact h) RW.out ⟨O0.out,O1.out,(Qbh HPB.out).2.2.2.2.2.1,HZ.out⟩ HRo.out HPB.out h45 (by omega))
 go_wp2_with fail
 refine TK.out.mono ?_
 rintro e w7 ⟨vw,rfl,hh⟩
 obtain⟨cc,hcc⟩:∃ cc,cc=Qee b r:=⟨_,rfl⟩
 have E:=hU (show Qcp b r=cc by rw[Qcp,HPB.out,hcc];rfl)
 rw[<-hcc] at hh
 rw[<-hcc]
 clear hcc TK r2 f2
 rcases hh with⟨hne,h1⟩|⟨h0,vr,B8,rows,ow,hbl⟩
 · have z0:((cc:Int)==0)=false:=beq_false_of_ne (by omega)
   have HNE:=hU hne
   replace he:=he.next h1;replace B3:=B3.ext h1
   clear h1 B1 B2 B7 hne
   have T4:=hU (B3.there 0 13 (by simp))
   obtain⟨wz,hwz,hz,hx⟩:∃ wz,wz=w7.setCells g3 0 [.int .i64 0,.slice none 0 0,.slice none 0 0,.slice none 0 0,.int .i64 0,.slice none 0 0,.int .i64 0,.slice none 0 0,.int .i64 0,.int .i64 0,.string ⟨#[]⟩,.int .i64 0,.string ⟨#[]⟩]/\Blk wz g3 37 #[.int .i64 0,.slice none 0 0,.slice none 0 0,.slice none 0 0,.int .i64 0,.slice none 0 0,.int .i64 0,.slice none 0 0,.int .i64 0,.int .i64 0,.string ⟨#[]⟩,.int .i64 0,.string ⟨#[]⟩]/\Ext w wz:=⟨_,rfl,Qas B3 [.int .i64 0,.slice none 0 0,.slice none 0 0,.slice none 0 0,.int .i64 0,.slice none 0 0,.int .i64 0,.slice none 0 0,.int .i64 0,.int .i64 0,.string ⟨#[]⟩,.int .i64 0,.string ⟨#[]⟩] rfl,Qaa hw [.int .i64 0,.slice none 0 0,.slice none 0 0,.slice none 0 0,.int .i64 0,.slice none 0 0,.int .i64 0,.slice none 0 0,.int .i64 0,.int .i64 0,.string ⟨#[]⟩,.int .i64 0,.string ⟨#[]⟩] 0 _ he⟩
   have HW:=hU hwz;have Z4:=hU hz;have X4:=hU hx
   clear hwz hz hx B3 he
   go_wp2_with (refine Qac rfl 37 _ _ rfl rfl g3 0 [.int .i64 0,.slice none 0 0,.slice none 0 0,.slice none 0 0,.int .i64 0,.slice none 0 0,.int .i64 0,.slice none 0 0,.int .i64 0,.int .i64 0,.string ⟨#[]⟩,.int .i64 0,.string ⟨#[]⟩] rfl rfl T4.out (by kernel_rfl) (by rfl) ?_;rw[<-HW.out])
   exact Qd6 rfl rfl Z4.out Tryz.underlying37 rfl (by kernel_rfl) rfl (Qo7 E.out HNE.out rfl (World.ownsRow_nil _ _ _ _) X4.out)
 · subst h0
   replace he:=Qjz he hbl (by omega)
   replace B3:=Qoc hbl B3 (by omega)
   obtain⟨ms,hms⟩:∃ ms,ms=Qe8 (tkB b r) (.slice V0 b.log.entries.length v0) vr (.slice V2 b.heads.length v2) (.slice V3 b.sealed.leaves.peaks.length v3) (.slice V4 b.sealed.taken.peaks.length v4):=⟨_,rfl⟩
   obtain⟨VR,vrc,rfl,_⟩:=Qae rows.r
   have HM13:=hU (show ms.length=13 by rw[hms];rfl)
   have HM1:=hU (show ms.all (·.oneCell')=true by rw[hms];rfl)
   rw[<-hms] at B8
   have HMS:=hU hms
   have RX:=hU (Blk.range B8)
   obtain⟨wz,hwz,hz,hx⟩:∃ wz,wz=w7.setCells g3 0 ms/\Blk wz g3 37 ms.toArray/\Ext w wz:=⟨_,rfl,Qas B3 ms (by rw[HM13.out];rfl),Qaa hw ms 0 _ he⟩
   have HW:=hU hwz;have T4:=hU (show w7.there g3 0 ms.length by rw[HM13.out];exact B3.there 0 13 (by simp));have Z4:=hU hz;have X4:=hU hx
   have RZ:Hid (Qb9 w.heap.size wz (tkB b r) (.slice V0 b.log.entries.length v0) (.slice VR (tkB b r).receipts.length vrc) (.slice V2 b.heads.length v2) (.slice V3 b.sealed.leaves.peaks.length v3) (.slice V4 b.sealed.taken.peaks.length v4)):=hU (by rw[hwz];exact⟨Qa2 rows.e hK (by omega) ms 0,Qa2 rows.r hK (by omega) ms 0,Qa2 rows.h hK (by omega) ms 0,Qa2 rows.p hK (by omega) ms 0,Qa2 rows.q hK (by omega) ms 0⟩)
   have OZ:Hid (wz.ownsRow w.heap.size 50 3 vw 1 (Qcs b 2 (Qan r)).cells):=hU (by rw[hwz];exact Qa2 ow hK (by omega) ms 0)
   clear hwz hz hx rows ow hbl hms B1 B2 B3 B7 B8 he
   go_wp2_with (first|(refine wpList_load_mid rfl 37 _ rfl g7 0 rfl ms _ RX.out Tryz.underlying37 rfl (by rw[HM13.out];kernel_rfl) ?_)|(refine Qac rfl 37 _ _ rfl rfl g3 0 ms rfl rfl T4.out (by rw[HM13.out];kernel_rfl) HM1.out ?_;rw[<-HW.out]))
   refine Qd6 rfl rfl Z4.out Tryz.underlying37 rfl (by rw[List.size_toArray,HM13.out];kernel_rfl) rfl ?_
   rw[(Qjl E.out).1,(Qjl E.out).2,E.out]
   exact⟨_,_,_,_,_,vw,by rw[HMS.out];rfl,RZ.out,AP.out,by simpa using OZ.out,X4.out⟩
theorem Qg1(n:Int)(a b:ByteArray)(w:World)(hn:inR n 1 32=true)(ha:a.size=n.toNat)(hb:b.size=n.toNat):Calls Tryz.prog 264 #[.int .i64 n,.string a,.string b] w fun e w'=>e=.returned (.tuple #[.string (Qor n (a++b)),.bool true])/\Ext w w':=by
 have hn2:=Qa0 hn
 have h1:(a.size:Int)=n:=by omega
 have h2:(b.size:Int)=n:=by omega
 have h3:(a++b).size<=4000:=by rw[ByteArray.size_append];omega
 have E:Qbr n 1 (a++b)=true:=by rw[Qbr,hn];simp[inR];rw[ByteArray.size_append] at h3;omega
 have E:=hU E
 have ha2:a.size<=1000:=by omega
 have hb2:b.size<=1000:=by omega
 have hs:(a++b).size<=maxLen:=by unfold maxLen;omega
 clear ha hb h3 hn2
 go_enter Tryz.func264,Tryz.ntmps264
 go_wp2_with fail
 refine(Qgo n _).mono ?_
 rintro e w1 ⟨rfl,rfl⟩
 go_wp2_with fail
 refine(Qdv n 1 (a++b) _ hs).mono ?_
 rintro e w1 ⟨rfl,he⟩
 rw[E.out]
 go_wp2_with fail
 go_ret2
 exact⟨rfl,he⟩

set_option maxHeartbeats 1000000
theorem Qr3{w:Int}{l:List ByteArray}{k:Nat}(hk:k<l.length)(h:((l[k].size:Int)==w)=false):Qdy w l=false:=by
 rw[Qdy,List.all_eq_false]
 exact⟨l[k],List.getElem_mem hk,by simpa using h⟩
theorem Qno{w:Int}{l:List ByteArray}(h:∀ k (hk:k<l.length),((l[k].size:Int)==w)=true):Qdy w l=true:=by
 rw[Qdy,List.all_eq_true]
 intro x hx
 obtain⟨k,hk,rfl⟩:=List.getElem_of_mem hx
 exact h k hk
theorem areHashes_any(n:Int)(A:Option Addr)(c:Nat)(l:List ByteArray)(w:World)(hr:Qav w w.heap.size sone 1 A l)(hl:l.length<=1048576) :
 Calls Tryz.prog 206 #[.int .i64 n,.slice A l.length c] w fun e w'=>e=.returned (.bool (Qdy n l))/\Ext w w':=by
 go_enter Tryz.func206,Tryz.ntmps206
 go_wp2_with fail
 go_loopw [6,9] (fun _ i wr=>∃(k:Nat),k<=l.length/\i=.int .i64 k/\(∀ j (hj:j<l.length),j<k->((l[j].size:Int)==n)=true)/\Ext w wr) (fun _ i _=>l.length-(intOf i).toNat)
 case atStart=>exact⟨0,Nat.zero_le _,rfl,fun j _ h=>absurd h (Nat.not_lt_zero _),Below.refl _ _⟩
 case round=>
  obtain⟨k,hk,rfl,hall,he⟩:=hrel
  have Hall:=hU hall;clear hall
  by_cases hlt:k<l.length
  · obtain⟨b,off,rfl,hb,hc⟩:=Qbb.at_ (hr.ext he) (k:=k) hlt
    have hdl:l[k]?=some l[k]:=List.getElem?_eq_getElem hlt
    have c0:=hc 0 _ (Qa9 _ 1 Qbw l k 0 _ hdl (by omega))
    rw[Nat.add_zero,Nat.mul_one] at c0
    clear hc hdl
    cases b1:((l[k].size:Int)==n)
    · have E:=hU (Qr3 hlt b1)
      generalize l[k]=x at *
      go_wp2_with fail
      go_ret
      exact⟨Qam E.out.symm,he⟩
    · have Hn:Hid (∀ j (hj:j<l.length),j<k+1->((l[j].size:Int)==n)=true):=hU (fun j hj h=>by
       rcases Nat.lt_or_ge j k with h1|h1
       · exact Hall.out j hj h1
       · obtain rfl:j=k:=by omega
         exact b1)
      clear Hall
      generalize l[k]=x at *
      go_wp2_with fail
      go_roundw
      case rel=>exact⟨k+1,by omega,by go_num,Hn.out,he⟩
      case measure=>simp[intOf];omega
  · have E:=hU (Qno (fun j hj=>Hall.out j hj (by omega)))
    go_wp2_with fail
    go_ret
    exact⟨Qam E.out.symm,he⟩
theorem Qfx(n:Int)(A:Option Addr)(c:Nat)(l:List ByteArray)(w:World)(hr:Qav w w.heap.size sone 1 A l)(hl:l.length<=1048576) :
 Calls Tryz.prog 225 #[.int .i64 n,.slice A l.length c] w fun e w'=>e=.returned (.bool (Qdy n l&&inR n 1 32))/\Ext w w':=by
 go_enter Tryz.func225,Tryz.ntmps225
 go_wp2_with fail
 go_loopw [5] (fun i wr=>∃(k:Nat),k<=l.length/\i=.int .i64 k/\(∀ j (hj:j<l.length),j<k->((l[j].size:Int)==n)=true)/\Ext w wr) (fun i _=>l.length-(intOf i).toNat)
 case atStart=>exact⟨0,Nat.zero_le _,rfl,fun j _ h=>absurd h (Nat.not_lt_zero _),Below.refl _ _⟩
 case round=>
  obtain⟨k,hk,rfl,hall,he⟩:=hrel
  have Hall:=hU hall;clear hall
  by_cases hlt:k<l.length
  · obtain⟨b,off,rfl,hb,hc⟩:=Qbb.at_ (hr.ext he) (k:=k) hlt
    have hdl:l[k]?=some l[k]:=List.getElem?_eq_getElem hlt
    have c0:=hc 0 _ (Qa9 _ 1 Qbw l k 0 _ hdl (by omega))
    rw[Nat.add_zero,Nat.mul_one] at c0
    clear hc hdl
    have hd:decide ((k:Int)<(l.length:Int))=true:=by rw[decide_eq_true_iff];omega
    cases b1:((l[k].size:Int)==n)
    · have E:=hU (Qr3 hlt b1)
      have b2:=Qg4 b1
      generalize l[k]=x at *
      go_wp2_with fail
      go_ret
      exact⟨Qam (by rw[E.out];rfl),he⟩
    · have Hn:Hid (∀ j (hj:j<l.length),j<k+1->((l[j].size:Int)==n)=true):=hU (fun j hj h=>by
       rcases Nat.lt_or_ge j k with h1|h1
       · exact Hall.out j hj h1
       · obtain rfl:j=k:=by omega
         exact b1)
      have b2:=Qg4 b1
      clear Hall
      generalize l[k]=x at *
      go_wp2_with fail
      go_roundw
      case rel=>exact⟨k+1,by omega,by go_num,Hn.out,he⟩
      case measure=>simp[intOf];omega
  · have E:=hU (Qno (fun j hj=>Hall.out j hj (by omega)))
    have hd:decide ((k:Int)<(l.length:Int))=false:=by rw[decide_eq_false_iff_not];omega
    go_wp2_with (go_at_call 89;refine(Qgo _ _).mono ?_;rintro e w' ⟨rfl,rfl⟩)
    go_ret
    exact⟨Qam (by rw[E.out];rfl),he⟩

set_option maxHeartbeats 2000000
def pkN (n:Int):Nat:=if inR n 0 512 then pc n.toNat else 0
theorem pkN_of{N:Nat}(h:N<=512):pkN (N:Int)=pc N:=by
 have:inR (N:Int) 0 512=true:=by simp[inR];omega
 rw[pkN,if_pos this];rfl
theorem pkN_le(n:Int):pkN n<=512:=by
 unfold pkN
 split
 · rename_i h
   have:=Qa0 h
   have:=Qh9 n.toNat
   omega
 · omega
def pkAt (N p:Nat):Nat:=if p=0 then pc N else pc (N / (2*p))
theorem Qxe{N p:Nat}(h:p=1\/∃ q,p=2*q/\0<q):pkAt N (p / 2)=N / p % 2+pkAt N p:=by
 rcases h with rfl|⟨q,rfl,hq⟩
 · simp only[pkAt,Nat.div_one]
   exact Qgu N
 · have e1:2*q / 2=q:=by omega
   have e2:N / (2*(2*q))=N / (2*q) / 2:=by rw[Nat.mul_comm 2 (2*q),<-Nat.div_div_eq_div_mul]
   rw[e1,pkAt,pkAt,if_neg (by omega),if_neg (by omega),e2]
   exact Qgu _
theorem Qoj(n:Int)(w:World):Calls Tryz.prog 263 #[.int .i64 n] w fun e w'=>∃ A c,e=.returned (.slice A (pkN n) c)/\Ext w w':=by
 have He:=hU (Ext.new (Below.refl w.heap.size w) (.cells #[] 3))
 have OE:=hU (Qbd w 3 1)
 obtain⟨i0,hi,hz0,hz1,hz2⟩:=info_parts info_int
 cases b1:inR n 0 512
 · have E:=hU (show pkN n=0 by rw[pkN,b1];rfl)
   go_enter Tryz.func263,Tryz.ntmps263
   go_wp2_with (go_at_call 137;refine(Qe3 _ _).mono ?_;rintro e w' ⟨rfl,rfl⟩)
   go_ret
   exact⟨_,_,by rw[E.out];rfl,He.out⟩
 obtain⟨N,rfl,hN⟩:∃ N:Nat,n=(N:Int)/\N<=512:=⟨n.toNat,by have:=Qa0 b1;omega,by have:=Qa0 b1;omega⟩
 have F:=hU (pkN_of hN)
 go_enter Tryz.func263,Tryz.ntmps263
 go_wp2_with (go_at_call 137;refine(Qe3 _ _).mono ?_;rintro e w' ⟨rfl,rfl⟩)
 clear b1
 go_loopw [3,4] (fun v i wr=>∃(p k:Nat) (xs:List Value),i=.int .i64 (p:Int)/\(p=0\/p=1\/∃ q j,p=2*q/\q=2 ^ j/\j<=8)/\k=pkAt N p/\k<=512/\wr.ownsRow w.heap.size 3 1 v k xs/\Ext w wr) (fun _ i _=>(intOf i).toNat)
 case atStart=>
  refine⟨512,0,[],rfl,Or.inr (Or.inr ⟨256,8,rfl,rfl,by omega⟩),?_,by omega,OE.out,He.out⟩
  have:N / (2*512)=0:=by omega
  rw[pkAt,if_neg (by omega),this];rfl
 case round=>
  clear OE He
  obtain⟨p,k,xs,rfl,hp,hk,hk5,hown,he⟩:=hrel
  obtain⟨V,cv,rfl,hnc⟩:=Qae hown
  have KO:=hU hown;clear hown
  have HK:=hU hk;have HP:=hU hp
  clear hk hp
  by_cases h0:p=0
  · subst h0
    have E:=hU (show k=pkN (N:Int) by rw[HK.out,F.out];rfl)
    go_wp2_with fail
    go_ret
    exact⟨⟨_,_,by rw[<-E.out];rfl⟩,he⟩
  have hpp:0<p:=by omega
  have hp5:p<=512:=by
   rcases HP.out with h|h|⟨q,j,h1,h2,h3⟩
   · omega
   · omega
   · have:q<=2 ^ 8:=by rw[h2];exact Nat.pow_le_pow_right (by omega) h3
     omega
  have NX:=hU (Qxe (N:=N) (p:=p) (by
   rcases HP.out with h|h|⟨q,j,h1,h2,h3⟩
   · omega
   · exact Or.inl h
   · exact Or.inr ⟨q,h1,by rw[h2];exact Nat.two_pow_pos _⟩))
  have HP2:Hid (p / 2=0\/p / 2=1\/∃ q j,p / 2=2*q/\q=2 ^ j/\j<=8):=hU (by
   rcases HP.out with h|h|⟨q,j,h1,h2,h3⟩
   · omega
   · exact Or.inl (by omega)
   · refine Or.inr ?_
     cases j with
     | zero=>exact Or.inl (by simp at h2;omega)
     | succ j=>exact Or.inr ⟨2 ^ j,j,by rw[h1,h2,Nat.pow_succ];omega,rfl,by omega⟩)
  clear HP
  have hdN:N / p<=512:=Nat.le_trans (Nat.div_le_self _ _) hN
  have t1:Int.tdiv (N:Int) (p:Int)=((N / p:Nat):Int):=by rw[Int.tdiv_eq_ediv_of_nonneg (by omega)];rfl
  have t2:Int.tdiv (p:Int) 2=((p / 2:Nat):Int):=by rw[Int.tdiv_eq_ediv_of_nonneg (by omega)];rfl
  obtain⟨d,hd⟩:∃ d,d=N / p:=⟨_,rfl⟩
  rw[<-hd] at t1 NX hdN
  obtain⟨p2,hp2⟩:∃ p2,p2=p / 2:=⟨_,rfl⟩
  rw[<-hp2] at t2 NX HP2
  have hp2l:p2<p:=by omega
  have t3:Int.tmod (d:Int) 2=((d % 2:Nat):Int):=by rw[Int.tmod_eq_emod_of_nonneg (by omega)];rfl
  have pne:¬ (p:Int)=0:=by omega
  clear hd hp2
  rcases Nat.mod_two_eq_zero_or_one d with h2|h2
  · rw[h2] at t3
    have E:=hU (show k=pkAt N p2 by rw[NX.out,h2,<-HK.out];omega)
    have t3:Int.tmod (d:Int) 2=0:=t3
    clear h2 NX
    go_wp2_with fail
    go_roundw
    case rel=>exact⟨p2,k,xs,rfl,HP2.out,E.out,hk5,KO.out,he⟩
    case measure=>simp[intOf];omega
  · rw[h2] at t3
    have E:=hU (show k+1=pkAt N p2 by rw[NX.out,h2,<-HK.out];omega)
    have t3:Int.tmod (d:Int) 2=1:=t3
    have hk1:k+1<=512:=by
     rw[E.out]
     have:pkAt N p2<=N:=by
      unfold pkAt
      split
      · exact Qh9 N
      · exact Nat.le_trans (Qh9 _) (Nat.div_le_self _ _)
     omega
    clear h2 NX
    go_wp2_with (at_builtin;refine Qap _ rfl _ _ 43 rfl w.heap.size 3 i0 _ 1 8 Tryz.underlying43 hi hz0 hz1 hz2 rfl (by decide) _ _ _ rfl (KO.out.alloc _) ⟨wr.heap.size,0,none⟩ 1 1 [.int .i64 (p:Int)] rfl rfl ?c1 ?c2 ?c3 ?c4 ?c5 ?_)
    case c1=>exact(Blk.new wr 3 #[.int .i64 (p:Int)]).adds
    case c2=>intro u hu;simp at hu;subst hu;rfl
    case c3=>unfold maxLen;omega
    case c4=>omega
    case c5=>have:=he.size;simp;omega
    intro v' w2 hown' hfrm hmv
    have L0:=hU KO.out.lt
    have he2:Ext w w2:=hfrm.toExt (he.new _) (fun y hy e=>by have:=(L0.out _ e).1;omega)
    have O2:=hU hown'
    clear hown' hfrm hmv L0 KO he
    go_wp2_with fail
    go_roundw
    case rel=>exact⟨p2,k+1,_,rfl,HP2.out,E.out,hk1,O2.out,he2⟩
    case measure=>simp[intOf];omega
theorem Qog(wd:Int)(r:Qfq)(A:Option Addr)(c:Nat)(w:World)(hr:Qav w w.heap.size sone 1 A r.peaks)(hl:r.peaks.length<=1048576) :
 Calls Tryz.prog 262 #[.int .i64 wd,.agg #[.int .i64 r.size,.slice A r.peaks.length c]] w fun e w'=>e=.returned (.bool (Qck wd r))/\Ext w w':=by
 have K0:=hU (Blk.new w 31 #[.int .i64 r.size,.slice A r.peaks.length c])
 have He:=hU (Ext.new (Below.refl w.heap.size w) (.cells #[.int .i64 r.size,.slice A r.peaks.length c] 31))
 have HR:=hU (hr.ext He.out)
 obtain⟨fin,hfin⟩:∃ fin,fin=Qck wd r:=⟨_,rfl⟩
 rw[<-hfin]
 have F:=hU (show fin=(inR r.size 0 512&&decide (r.peaks.length=pc r.size.toNat)&&(Qdy wd r.peaks&&inR wd 1 32)) from hfin)
 obtain⟨L,hL⟩:∃ L,L=r.peaks.length:=⟨_,rfl⟩
 have hln:L<=1048576:=by omega
 have HC:=hU (fun(W:World) (hW:Qav W W.heap.size sone 1 A r.peaks)=>Qfx wd A c r.peaks W hW hl)
 rw[<-hL] at K0 He HC F HR
 rw[<-hL]
 clear hfin hr hL hl
 go_enter Tryz.func262,Tryz.ntmps262
 go_wp2_with fail
 obtain⟨g,hg⟩:∃ g,g=w.heap.size:=⟨_,rfl⟩
 rw[<-hg] at K0
 rw[<-hg]
 clear hg
 have ke:=K0.out;have he:=He.out;have hrd:=HR.out
 clear K0 He HR
 generalize w.alloc (.cells #[.int .i64 r.size,.slice A L c] 31)=w1 at *
 refine wp_region_held_drew (S:=fun w'=>Blk w' g 31 #[.int .i64 r.size,.slice A L c]/\Qav w' w'.heap.size sone 1 A r.peaks/\Ext w w') (by kernel_rfl) ⟨ke.drew,hrd,he.drew⟩ (fun hH=>?_)
 clear ke he hrd
 refine tk 0 (.pointer (some ⟨g,0,none⟩)) (some 5) hH ?_
 try simp only[zA]
 refine Qah 1 (.int .i64 r.size) (some 6) rfl rfl (by kernel_rfl) (Or.inl ⟨by rfl,?yq2⟩) hH ?rq2
 case yq2=>intro w' hS';obtain⟨s0,s1,s2⟩:=hS';obtain⟨r1,f1⟩:=s0.rules;go_simp;try with_reducible rfl
 try simp only[zA]
 cases p1:inR r.size 0 512
 · have E:=hU (show fin=false by rw[F.out,p1];rfl)
   refine oneH 2 (oi:=_) (some 7) (by kernel_rfl) rfl rfl rfl (fun K' hK=>?_)
   refine⟨?_⟩
   rw[if_pos (by rfl)]
   go_simp
   refine(Qe3 r.size _).mono ?_
   rintro e w2 ⟨rfl,rfl⟩
   rw[p1]
   refine hK.out _ _ ⟨_,rfl⟩ (hH) (fun hH2=>?_)
   clear hK K' hH
   have hH:=hH2
   clear hH2
   try simp only[zB]
   refine tk 3 (.bool false) (some 8) hH ?_
   try simp only[zA]
   refine tu 4 (some 9) hH ?_
   try simp only[zB]
   refine tu 5 (some 10) hH ?_
   try simp only[zB]
   refine tu 6 (some 11) hH ?_
   try simp only[zB]
   refine tu 7 (some 12) hH ?_
   try simp only[zB]
   refine tu 8 (some 13) hH ?_
   try simp only[zB]
   refine tu 9 (some 14) hH ?_
   try simp only[zB]
   refine tu 10 (some 15) hH ?_
   try simp only[zB]
   refine tu 11 (some 16) hH ?_
   try simp only[zB]
   refine tk 12 (.bool false) (some 17) hH ?_
   try simp only[zA]
   refine tk 13 (.bool false) (some 18) hH ?_
   try simp only[zA]
   refine tu 14 (some 19) hH ?_
   try simp only[zB]
   refine tu 15 (some 20) hH ?_
   try simp only[zB]
   refine tu 16 (some 21) hH ?_
   try simp only[zB]
   refine tu 17 (some 22) hH ?_
   try simp only[zB]
   refine tk 18 (.bool false) (some 23) hH ?_
   try simp only[zA]
   refine tk 19 (.bool false) (some 4) hH ?_
   try simp only[zA]
   have he2:=hH.2.2
   clear hH
   refine wpAnyH_done (by kernel_rfl) ?_ _
   go_wp2_with fail
   go_ret
   exact⟨Qam E.out.symm,he2⟩
 · have hs:=Qa0 p1
   have F2:=hU (show pkN r.size=pc r.size.toNat by rw[pkN,p1];rfl)
   obtain⟨M,hM⟩:∃ M,M=pkN r.size:=⟨_,rfl⟩
   have HM:=hU hM
   clear hM
   refine oneH 2 (oi:=_) (some 7) (by kernel_rfl) rfl rfl rfl (fun K' hK=>?_)
   refine⟨?_⟩
   rw[if_pos (by rfl)]
   go_simp
   refine(Qe3 r.size _).mono ?_
   rintro e w2 ⟨rfl,rfl⟩
   rw[p1]
   refine hK.out _ _ ⟨_,rfl⟩ (hH) (fun hH2=>?_)
   clear hK K' hH
   have hH:=hH2
   clear hH2
   try simp only[zB]
   refine tk 3 (.bool true) (some 8) hH ?_
   try simp only[zA]
   refine tk 4 (.pointer (some ⟨g,1,none⟩)) (some 9) hH ?_
   try simp only[zA]
   refine Qah 5 (.slice A L c) (some 10) rfl rfl (by kernel_rfl) (Or.inl ⟨by rfl,?yqb3⟩) hH ?rqb3
   case yqb3=>intro w' hS';obtain⟨s0,s1,s2⟩:=hS';obtain⟨r1,f1⟩:=s0.rules;go_simp;try with_reducible rfl
   try simp only[zA]
   refine Qah 6 (.int .i64 (L:Int)) (some 11) rfl rfl (by kernel_rfl) (Or.inl ⟨by rfl,?yqb4⟩) hH ?rqb4
   case yqb4=>intro w' hS';obtain⟨s0,s1,s2⟩:=hS';obtain⟨r1,f1⟩:=s0.rules;go_simp;try with_reducible rfl
   try simp only[zA]
   refine tk 7 (.pointer (some ⟨g,0,none⟩)) (some 12) hH ?_
   try simp only[zA]
   refine Qah 8 (.int .i64 r.size) (some 13) rfl rfl (by kernel_rfl) (Or.inl ⟨by rfl,?yqb6⟩) hH ?rqb6
   case yqb6=>intro w' hS';obtain⟨s0,s1,s2⟩:=hS';obtain⟨r1,f1⟩:=s0.rules;go_simp;try with_reducible rfl
   try simp only[zA]
   refine Qu5 9 (oi:=_) (some 14) (by kernel_rfl) rfl (by rfl) rfl (fun K' hK=>?_)
   refine⟨?_⟩
   rw[if_pos (by rfl)]
   go_simp
   refine(Qoj r.size _).mono ?_
   rintro e w2 ⟨Ap,cp,rfl,h1⟩
   rw[<-HM.out]
   refine hK.out _ _ ⟨_,rfl⟩ (⟨hH.1.ext h1,hH.2.1.ext h1,hH.2.2.next h1⟩) (fun hH2=>?_)
   clear hK K' hH h1
   have hH:=hH2
   clear hH2
   try simp only[zB]
   by_cases p2:L=M
   · have x2:(L:Int)=(M:Int):=by omega
     have E:=hU (show fin=(Qdy wd r.peaks&&inR wd 1 32) by rw[F.out,p1,<-F2.out,<-HM.out,decide_eq_true p2];rfl)
     obtain⟨z,hz⟩:∃ z,z=(Qdy wd r.peaks&&inR wd 1 32):=⟨_,rfl⟩
     have HZ:=hU hz
     clear p2 hz
     refine Qah 10 (.int .i64 (M:Int)) (some 15) rfl rfl (by kernel_rfl) (Or.inl ⟨by rfl,?yqbc1⟩) hH ?rqbc1
     case yqbc1=>intro w' hS';obtain⟨s0,s1,s2⟩:=hS';obtain⟨r1,f1⟩:=s0.rules;go_simp;try with_reducible rfl
     try simp only[zA]
     refine tk 11 (.bool true) (some 16) hH ?_
     try simp only[zA]
     clear x2
     refine tk 12 (.bool true) (some 17) hH ?_
     try simp only[zA]
     refine tk 13 (.bool true) (some 18) hH ?_
     try simp only[zA]
     refine Qah 14 (.int .i64 wd) (some 19) rfl rfl (by kernel_rfl) (Or.inl ⟨by rfl,?yqbc5⟩) hH ?rqbc5
     case yqbc5=>intro w' hS';obtain⟨s0,s1,s2⟩:=hS';obtain⟨r1,f1⟩:=s0.rules;go_simp;try with_reducible rfl
     try simp only[zA]
     refine tk 15 (.pointer (some ⟨g,1,none⟩)) (some 20) hH ?_
     try simp only[zA]
     refine Qah 16 (.slice A L c) (some 21) rfl rfl (by kernel_rfl) (Or.inl ⟨by rfl,?yqbc7⟩) hH ?rqbc7
     case yqbc7=>intro w' hS';obtain⟨s0,s1,s2⟩:=hS';obtain⟨r1,f1⟩:=s0.rules;go_simp;try with_reducible rfl
     try simp only[zA]
     refine Qu5 17 (oi:=_) (some 22) (by kernel_rfl) rfl (by rfl) rfl (fun K' hK=>?_)
     refine⟨?_⟩
     rw[if_pos (by rfl)]
     go_simp
     refine(HC.out _ hH.2.1).mono ?_
     rintro e w2 ⟨rfl,h1⟩
     rw[<-HZ.out]
     refine hK.out _ _ ⟨_,rfl⟩ (⟨hH.1.ext h1,hH.2.1.ext h1,hH.2.2.next h1⟩) (fun hH2=>?_)
     clear hK K' hH h1
     have hH:=hH2
     clear hH2
     try simp only[zB]
     refine tk 18 (.bool z) (some 23) hH ?_
     try simp only[zA]
     refine tk 19 (.bool z) (some 4) hH ?_
     try simp only[zA]
     rw[<-HZ.out] at E
     have he2:=hH.2.2
     clear hH
     refine wpAnyH_done (by kernel_rfl) ?_ _
     go_wp2_with fail
     go_ret
     exact⟨Qam E.out.symm,he2⟩
   · have x2:¬ (L:Int)=(M:Int):=by omega
     have E:=hU (show fin=false by rw[F.out,p1,<-F2.out,<-HM.out,decide_eq_false p2];rfl)
     clear p2
     refine Qah 10 (.int .i64 (M:Int)) (some 15) rfl rfl (by kernel_rfl) (Or.inl ⟨by rfl,?yqbd1⟩) hH ?rqbd1
     case yqbd1=>intro w' hS';obtain⟨s0,s1,s2⟩:=hS';obtain⟨r1,f1⟩:=s0.rules;go_simp;try with_reducible rfl
     try simp only[zA]
     refine tk 11 (.bool false) (some 16) hH ?_
     try simp only[zA]
     refine tk 12 (.bool false) (some 17) hH ?_
     try simp only[zA]
     refine tk 13 (.bool false) (some 18) hH ?_
     try simp only[zA]
     refine tu 14 (some 19) hH ?_
     try simp only[zB]
     refine tu 15 (some 20) hH ?_
     try simp only[zB]
     refine tu 16 (some 21) hH ?_
     try simp only[zB]
     refine tu 17 (some 22) hH ?_
     try simp only[zB]
     refine tk 18 (.bool false) (some 23) hH ?_
     try simp only[zA]
     refine tk 19 (.bool false) (some 4) hH ?_
     try simp only[zA]
     have he2:=hH.2.2
     clear hH
     refine wpAnyH_done (by kernel_rfl) ?_ _
     go_wp2_with fail
     go_ret
     exact⟨Qam E.out.symm,he2⟩
theorem Qf0(wd:Int)(r:Qfq)(A:Option Addr)(c:Nat)(w:World)(hr:Qav w w.heap.size sone 1 A r.peaks)(hl:r.peaks.length<=1048576) :
 Calls Tryz.prog 227 #[.int .i64 wd,.agg #[.int .i64 r.size,.slice A r.peaks.length c]] w fun e w'=>∃ m,e=.returned (.tuple #[.string (if Qck wd r then Qkb wd r else⟨#[]⟩),.int .i64 m,.bool (Qck wd r)])/\Ext w w':=by
 have K0:=hU (Blk.new w 31 #[.int .i64 r.size,.slice A r.peaks.length c])
 have He:=hU (Ext.new (Below.refl w.heap.size w) (.cells #[.int .i64 r.size,.slice A r.peaks.length c] 31))
 have RO:=hU (fun(W:World) (hW:Qav W W.heap.size sone 1 A r.peaks)=>Qog wd r A c W hW hl)
 have HR:=hU (hr.ext He.out)
 cases b1:Qck wd r
 · go_enter Tryz.func227,Tryz.ntmps227
   go_wp2_with fail
   refine(RO.out _ HR.out).mono ?_
   rintro e w1 ⟨rfl,h1⟩
   rw[b1]
   have he:=He.out.next h1
   clear h1
   go_wp2_with fail
   go_ret3
   exact⟨⟨0,rfl⟩,he⟩
 obtain⟨Fn,hFn⟩:∃ Fn,Fn=Qkb wd r:=⟨_,rfl⟩
 have FF:=hU hFn
 simp only[if_true]
 rw[<-hFn]
 have hb:=b1
 simp only[Qck,Bool.and_eq_true,decide_eq_true_eq,Qdy,List.all_eq_true,beq_iff_eq] at hb
 obtain⟨⟨hsz,hlen⟩,hhs,hwd⟩:=hb
 have hs2:=Qa0 hsz
 have hwd2:=Qa0 hwd
 have Hs:=hU (show ∀ x∈r.peaks,WdT wd x from fun x hx=>by have:=hhs x hx;unfold WdT;omega)
 have B1:=hU b1
 clear b1 hFn hhs hsz
 by_cases h0:r.size=0
 · have E:=hU (show Fn=Qcg wd by
    rw[FF.out]
    have:r.peaks=[]:=List.eq_nil_of_length_eq_zero (by rw[hlen,h0];rfl)
    unfold Qkb
    rw[this];rfl)
   have x0:(r.size==0)=true:=by rw[h0];rfl
   have x1:decide (r.size=0)=true:=decide_eq_true h0
   clear hlen h0
   go_enter Tryz.func227,Tryz.ntmps227
   go_wp2_with fail
   obtain⟨g,hg⟩:∃ g,g=w.heap.size:=⟨_,rfl⟩
   rw[<-hg] at K0
   rw[<-hg]
   clear hg
   have ke:=K0.out
   refine(RO.out _ HR.out).mono ?_
   rintro e w1 ⟨rfl,h1⟩
   rw[B1.out]
   have he:=He.out.next h1
   replace ke:=ke.ext h1
   clear h1 K0
   obtain⟨hcr,hfr⟩:=ke.rules
   go_wp2_with fail
   refine(Qdq wd _).mono ?_
   rintro e w2 ⟨rfl,h1⟩
   replace he:=he.next h1
   clear h1 hcr hfr ke
   go_wp2_with fail
   go_ret3
   exact⟨0,by rw[E.out];rfl,he⟩
 obtain⟨k,hk⟩:∃ k,r.peaks.length=k+1:=⟨r.peaks.length-1,by have:=pc_pos (n:=r.size.toNat) (by omega);omega⟩
 have hk5:k<=512:=by have:=Qh9 r.size.toNat;omega
 obtain⟨b,off,rfl,hb,hc⟩:=hr.2 (by omega)
 obtain⟨t,ht⟩:∃ t,r.peaks[k]?=some t:=⟨r.peaks[k]'(by omega),List.getElem?_eq_getElem (by omega)⟩
 have hcell:∀(j:Nat) (x:ByteArray),r.peaks[j]?=some x->w.cell? ⟨b,off+j,none⟩=some (.string x):=fun j x hx=>by
  have:=hc (j*1+0) (.string x) (by rw[Qa9 sone 1 Qbw r.peaks j 0 x hx (by omega)];rfl)
  rwa [Nat.mul_one,Nat.add_zero] at this
 have C0:=hU (hcell k t ht)
 have HC:=hU hcell
 have hst:WdT wd t:=Hs.out t (List.mem_of_getElem? ht)
 have ST:=hU (show Fn=(r.peaks.take k).reverse.foldl (fun r p=>ndB wd p r) t by rw[FF.out];exact Qt6 _ _ ht hk)
 have HST:=hU hst
 obtain⟨L,hL⟩:∃ L,L=r.peaks.length:=⟨_,rfl⟩
 rw[<-hL] at K0 He hk hl RO HR
 rw[<-hL]
 have e1:(L:Int)-1=(k:Int):=by omega
 have e2:IntKind.i64.wrap (k:Int)=(k:Int):=IntWalk.i64_in _ (by omega)
 have e3:(L:Int)-2=(k:Int)-1:=by omega
 have hkL:k<L:=by omega
 have HL:=hU hL
 clear hc hcell ht hst hk hL hlen
 go_enter Tryz.func227,Tryz.ntmps227
 go_wp2_with fail
 obtain⟨g,hg⟩:∃ g,g=w.heap.size:=⟨_,rfl⟩
 rw[<-hg] at K0
 rw[<-hg]
 clear hg
 have ke:=K0.out
 refine(RO.out _ HR.out).mono ?_
 rintro e w1 ⟨rfl,h1⟩
 rw[B1.out]
 have he:=He.out.next h1
 replace ke:=ke.ext h1
 clear h1 K0 He HR RO
 obtain⟨hcr,hfr⟩:=ke.rules
 have c1:w1.cell? ⟨b,off+k,none⟩=some (.string t):=(he.cell (p:=⟨b,off+k,none⟩) hb).trans C0.out
 have e0:(r.size==0)=false:=beq_false_of_ne h0
 go_wp2_with fail
 clear c1
 go_loopw [9,10] (fun rt i wr=>∃(j:Nat) (q:ByteArray),j<=k/\i=.int .i64 ((j:Int)-1)/\rt=.string q/\(r.peaks.take j).reverse.foldl (fun r p=>ndB wd p r) q=Fn/\WdT wd q/\Blk wr g 31 #[.int .i64 r.size,.slice (some ⟨b,off,none⟩) L c]/\Ext w wr) (fun _ i _=>(intOf i+1).toNat)
 case atStart=>exact⟨k,t,Nat.le_refl _,by go_num,rfl,ST.out.symm,HST.out,ke,he⟩
 case round=>
  clear ke he hcr hfr
  obtain⟨j,q,hj,rfl,rfl,hF,hw,k0,he⟩:=hrel
  have HF:=hU hF;have HW:=hU hw
  obtain⟨hcr,hfr⟩:=k0.rules
  have K0:=hU k0
  clear hF hw k0
  rcases Nat.eq_zero_or_pos j with j0|j0
  · subst j0
    have E:=hU (show q=Fn from HF.out)
    go_wp2_with fail
    go_quiet (fail)
    go_wp2_with fail
    go_ret3
    exact⟨(k:Int),by rw[E.out];rfl,he.drewN _⟩
  obtain⟨i,hi⟩:∃ i,j=i+1:=⟨j-1,by omega⟩
  subst hi
  obtain⟨x,hx⟩:∃ x,r.peaks[i]?=some x:=⟨r.peaks[i]'(by have:=HL.out;omega),List.getElem?_eq_getElem (by have:=HL.out;omega)⟩
  have c2:wr.cell? ⟨b,off+i,none⟩=some (.string x):=(he.cell (p:=⟨b,off+i,none⟩) hb).trans (HC.out i x hx)
  have hxs:WdT wd x:=Hs.out x (List.mem_of_getElem? hx)
  have FN:=hU (show(r.peaks.take i).reverse.foldl (fun r p=>ndB wd p r) (ndB wd x q)=Fn by rw[<-Qr4 _ hx];exact HF.out)
  have HJ:=hU (Qkh hwd x q hxs HW.out)
  have NH:Hid (∀ W:World,Calls Tryz.prog 264 #[.int .i64 wd,.string x,.string q] W fun e w'=>e=.returned (.tuple #[.string (Qor wd (x++q)),.bool true])/\Ext W w'):=hU (fun W=>Qg1 wd x q W hwd hxs HW.out)
  have e3:((i+1:Nat):Int)-1=(i:Int):=by omega
  have e4:IntKind.i64.wrap (i:Int)=(i:Int):=IntWalk.i64_in _ (by omega)
  have hiL:i<L:=by omega
  have d0:decide ((0:Int)<=(i:Int))=true:=decide_eq_true (by omega)
  rw[e3]
  clear hx hxs HF HW
  go_wp2_with fail
  refine(NH.out _).mono ?_
  rintro e w2 ⟨rfl,h1⟩
  replace K0:=hU (K0.out.ext h1);replace he:=he.next h1
  clear h1 hcr hfr c2
  go_wp2_with fail
  go_roundw
  case rel=>exact⟨i,_,by omega,by go_num,rfl,FN.out,HJ.out,K0.out,he⟩
  case measure=>simp[intOf]
end Go.Proofs.YtbnkjgcpjeedfaaGreat

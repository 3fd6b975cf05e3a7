/-
  PutA; CtkLw; PubA: No condition.
-/
import Derived.Test.YtbnkjgcpjeedfaaGreatPutW
import Derived.Test.YtbnkjgcpjeedfaaGreatReopenR
import Derived.Test.YtbnkjgcpjeedfaaGreatMem
import Derived.Test.YtbnkjgcpjeedfaaGreatCutQ
import Derived.Test.YtbnkjgcpjeedfaaGreatNodeW
import Derived.Test.YtbnkjgcpjeedfaaGreatRightP
import Derived.Test.YtbnkjgcpjeedfaaGreatSealW
namespace Go.Proofs.YtbnkjgcpjeedfaaGreat
set_option maxHeartbeats 8000000
set_option maxRecDepth 100000
set_option linter.unusedSimpArgs false
open Go.RowKit
set_option linter.unusedVariables false
theorem Qnt(l:List ByteArray):l.flatMap sone=l.map Value.string:=by
 induction l with
 | nil=>rfl
 | cons x r ih=>simp only[List.flatMap_cons,List.map_cons,ih];rfl
theorem Qrb{cur:Array Value}{l:List ByteArray}{k:Nat}{u:ByteArray}(h:cur.toList.take 3=l.flatMap sone)(hk:k<3):(cur.setIfInBounds k (.string u)).toList.take 3=(l.set k u).flatMap sone:=by
 rw[Qnt] at h ⊢
 rw[Array.toList_setIfInBounds,List.take_set,h,List.map_set]
theorem cur_at{cur:Array Value}{l:List ByteArray}{k:Nat}{s:ByteArray}(h:cur.toList.take 3=l.flatMap sone)(hk:k<3)(hs:l[k]?=some s):cur[k]?=some (.string s):=by
 have h1:(cur.toList.take 3)[k]?=some (.string s):=by rw[h,Qnt,List.getElem?_map,hs];rfl
 rw[List.getElem?_take_of_lt hk,Array.getElem?_toList] at h1
 exact h1
theorem Qoh(q c k p:Nat)(l:List ByteArray)(s t:ByteArray)(V:Option Addr)(vc:Nat)(w:World)(hl3:l.length=3)(hok:Qch l=true)(hr:SlF AnyB sone 1 w (some ⟨q,0,none⟩) l c)(hw:Qav w w.heap.size Qbs.cells 3 V [⟨(k:Int),(p:Int),t⟩])(hk:k<3)(hs:l[k]?=some s)(ha:p<=s.size)(h3:s.size<=300000)(ht:t.size+p<=300000) :
 Calls Tryz.prog 20 #[.agg #[.slice (some ⟨q,0,none⟩) 3 c],.slice V 1 vc] w fun e w'=>∃(q' c':Nat) (cur:Array Value),e=.returned (.tuple #[.agg #[.slice (some ⟨q',0,none⟩) 3 c'],.int .i64 1])/\Blk w' q' 9 cur/\cur.toList.take 3=(l.set k (s.extract 0 p++t)).flatMap sone/\w.heap.size<=q'/\Ext w w'/\(3<=c'/\c'<=maxLen):=by
 obtain⟨B0,B1,he⟩:=Qcq w #[.slice (some ⟨q,0,none⟩) 3 c] #[.slice none 0 0] 52 52
 have DO:=hU (fun(W:World) (h:Ext w W)=>Qcr (some ⟨q,0,none⟩) c l W (hr.ext h).reads (by omega))
 have CD:=hU (fun(W:World) (h:Ext w W)=>Qim (some ⟨q,0,none⟩) c l W (hr.ext h) (by omega))
 rw[hl3,hok] at DO
 rw[hl3] at CD
 obtain⟨b0,off,rfl,hb0,hc⟩:=Qbb.at_ hw (k:=0) (by simp)
 have y0:w.cell? ⟨b0,off,none⟩=some (.int .i64 (k:Int)):=hc 0 _ rfl
 have y1:w.cell? ⟨b0,off+1,none⟩=some (.int .i64 (p:Int)):=by have:=hc 1 (.int .i64 (p:Int)) rfl;simpa using this
 have y2:w.cell? ⟨b0,off+2,none⟩=some (.string t):=by have:=hc 2 (.string t) rfl;simpa using this
 have Y:Hid (∀ W,Ext w W->W.cell? ⟨b0,off,none⟩=some (.int .i64 (k:Int))/\W.cell? ⟨b0,off+1,none⟩=some (.int .i64 (p:Int))/\W.cell? ⟨b0,off+2,none⟩=some (.string t)):=hU (fun W h=>⟨(h.cell (p:=⟨b0,off,none⟩) hb0).trans y0,(h.cell (p:=⟨b0,off+1,none⟩) hb0).trans y1,(h.cell (p:=⟨b0,off+2,none⟩) hb0).trans y2⟩)
 have HS:=hU hs
 clear hr hw hc y0 y1 y2 hl3 hok hs
 obtain⟨g2,hg2⟩:∃ g2,g2=w.heap.size:=⟨_,rfl⟩
 obtain⟨g4,hg4⟩:∃ g4,g4=w.heap.size+1:=⟨_,rfl⟩
 go_enter Tryz.func20,Tryz.ntmps20
 go_upto_region 1 with fail
 obtain⟨w1,hw1⟩:∃ w1,w1=(w.alloc (.cells #[.slice (some ⟨q,0,none⟩) 3 c] 52)).alloc (.cells #[.slice none 0 0] 52):=⟨_,rfl⟩
 rw[<-hw1] at B0 B1 he
 rw[<-hw1]
 rw[<-hg4] at B1
 rw[<-hg2] at B0
 rw[<-hg4,<-hg2]
 have hw4:w.heap.size<=g4:=by omega
 clear hw1 hg2 hg4
 obtain⟨r0,f0⟩:=B0.rules
 go_wp2_with fail
 refine(DO.out _ he).mono ?_
 rintro e w2 ⟨rfl,h1⟩
 replace B0:=B0.ext h1;replace B1:=B1.ext h1;replace he:=he.next h1
 clear h1 DO r0 f0
 obtain⟨r0,f0⟩:=B0.rules
 go_wp2_with fail
 refine(CD.out _ he).mono ?_
 rintro e w3 ⟨v,rfl,ho,h1⟩
 have hs2:=he.size
 have h4l:=B1.lt
 replace B1:=B1.ext h1;replace he:=he.next h1
 rcases ho.2 with⟨_,h0⟩|⟨q',c',cur,rfl,hq',hh,hnc,hm,hsz,htk⟩
 · exact absurd h0 (by decide)
 have KQ:Blk w3 q' 9 cur:=hh
 have htk:cur.toList.take 3=l.flatMap sone:=htk
 have HCB:=hU (show 3<=c'/\c'<=maxLen from⟨hnc,hm⟩)
 clear h1 CD r0 f0 B0 ho hh hnc hm hsz
 have hx:=Ext.new (Below.refl w3.heap.size w3) (.cells #[.slice (some ⟨q',0,none⟩) 3 c'] 52)
 have K6:=Blk.new w3 52 #[.slice (some ⟨q',0,none⟩) 3 c']
 have hql:=KQ.lt
 replace B1:=B1.ext hx;replace he:=he.next hx;replace KQ:=KQ.ext hx
 clear hx
 go_upto_region 4 with fail
 obtain⟨g6,hg6⟩:∃ g6,g6=w3.heap.size:=⟨_,rfl⟩
 rw[<-hg6] at K6 hql
 rw[<-hg6]
 clear hg6
 generalize w3.alloc (.cells #[.slice (some ⟨q',0,none⟩) 3 c'] 52)=w4 at *
 have hqw:w.heap.size<=q':=by omega
 have h4q:g4<q':=by omega
 have G1:=hU B1;have G6:=hU K6;have GQ:=hU (show ∃ cur,Blk w4 q' 9 cur/\cur.toList.take 3=(if(0:Nat)=0 then l else l.set k (s.extract 0 p++t)).flatMap sone from⟨cur,KQ,by rw[if_pos rfl];exact htk⟩);have GE:=hU he
 clear B1 K6 KQ htk he hs2 h4l hq'
 go_upto_region 5 with fail
 go_loopw [22] (fun i wr=>∃ j:Nat,j<=1/\i=.int .i64 j/\Blk wr g6 52 #[.slice (some ⟨q',0,none⟩) 3 c']/\Blk wr g4 52 #[.slice none 0 0]/\(∃ cur,Blk wr q' 9 cur/\cur.toList.take 3=(if j=0 then l else l.set k (s.extract 0 p++t)).flatMap sone)/\Ext w wr) (fun i _=>1-(intOf i).toNat)
 case atStart=>exact⟨0,Nat.zero_le _,rfl,G6.out,G1.out,GQ.out,GE.out⟩
 case round=>
  clear G1 G6 GQ GE
  obtain⟨j,hj,rfl,k6,k4,⟨cu,kq,hcu⟩,he⟩:=hrel
  by_cases hlt:j<1
  case neg=>
   obtain rfl:j=1:=by omega
   rw[if_neg (by decide)] at hcu
   have Z1:=hU (k4.put 0 [.slice (some ⟨q',0,none⟩) 3 c'] #[.slice (some ⟨q',0,none⟩) 3 c'] (by simp) rfl)
   have Z2:=hU (kq.farCells (g':=g4) (by omega) [.slice (some ⟨q',0,none⟩) 3 c'] 0)
   have Z3:=hU (Qaa (W:=w) (g:=g4) hw4 [.slice (some ⟨q',0,none⟩) 3 c'] 0 _ he)
   have HCU:=hU hcu
   obtain⟨r1,f1⟩:=k6.rules
   obtain⟨r2,f2⟩:=k4.rules
   clear k6 k4 kq hcu he
   go_wp2_with fail
   exact Qat rfl rfl Z1.out Tryz.underlying52 rfl (by kernel_rfl) rfl ⟨q',c',cu,rfl,Z2.out,HCU.out,hqw,Z3.out,HCB.out⟩
  obtain rfl:j=0:=by omega
  rw[if_pos rfl] at hcu
  obtain⟨y0,y1,y2⟩:=Y.out _ he
  have KA:=Blk.new wr 50 #[.int .i64 (k:Int),.int .i64 (p:Int),.string t]
  have hx:=Ext.new (Below.refl wr.heap.size wr) (.cells #[.int .i64 (k:Int),.int .i64 (p:Int),.string t] 50)
  have K6:=hU (k6.ext hx);have K4:=hU (k4.ext hx);have KQ:=hU (kq.ext hx);have HE:=hU (he.next hx);have HCU:=hU hcu;have KW:=hU KA
  clear k6 k4 kq hcu he hx KA
  go_upto_region 7 with fail
  obtain⟨g8,hg8⟩:∃ g8,g8=wr.heap.size:=⟨_,rfl⟩
  rw[<-hg8] at KW
  rw[<-hg8]
  clear hg8 y0 y1 y2
  generalize wr.alloc (.cells #[.int .i64 (k:Int),.int .i64 (p:Int),.string t] 50)=w5 at *
  have CU:=hU (cur_at HCU.out hk HS.out)
  have FT:=hU (Qr5 q' c' k p s t w5 ((KQ.out.cell k).trans CU.out) KQ.out.lt hk ha h3 ht)
  obtain⟨r1,f1⟩:=K6.out.rules
  obtain⟨r2,f2⟩:=KW.out.rules
  go_wp2_with fail
  refine FT.out.mono ?_
  rintro e w6 ⟨rfl,h1⟩
  replace K6:=hU (K6.out.ext h1);replace K4:=hU (K4.out.ext h1);replace KQ:=hU (KQ.out.ext h1);replace KW:=hU (KW.out.ext h1);replace HE:=hU (HE.out.next h1)
  clear h1 r1 f1 r2 f2 FT
  have hne:g6≠q':=by omega
  have PT:=hU (Qt9 g6 q' c' k p s t cu w6 K6.out KQ.out hne CU.out hk ha h3 ht)
  obtain⟨r2,f2⟩:=KW.out.rules
  go_wp2_with fail
  refine PT.out.mono ?_
  rintro e w7 ⟨v,rfl,kq2,kk⟩
  have E7:=hU (HE.out.nextBut hqw kk)
  have K67:=hU (K6.out.extBut kk hne)
  have K47:=hU (K4.out.extBut kk (by omega))
  have KQ7:=hU kq2
  have HC7:=hU (Qrb (u:=s.extract 0 p++t) HCU.out hk)
  clear kq2 kk r2 f2 PT
  go_wp2_with fail
  go_roundw
  case rel=>exact⟨1,by omega,by go_num,K67.out,K47.out,⟨_,KQ7.out,by rw[if_neg (by decide)];exact HC7.out⟩,E7.out⟩
  case measure=>simp[intOf]
end Go.Proofs.YtbnkjgcpjeedfaaGreat
namespace Go.Proofs.YtbnkjgcpjeedfaaGreat
set_option linter.unusedSimpArgs false
open Go.RowKit Go.WideShapes Go.ChangeAt
set_option linter.unusedVariables false
def wasT (b:Qad) (k:Nat):ByteArray:=Qai (Qay b k)
def fsC (b:Qad):Array Value:=#[.string (Qai (Qay b 0)),.string (Qai (Qay b 1)),.string (Qai (Qay b 2))]
theorem fsC_at(b:Qad){k:Nat}(hk:k<3):(fsC b)[k]?=some (.string (wasT b k)):=by
 obtain rfl|rfl|rfl:k=0\/k=1\/k=2:=by omega
 all_goals rfl
theorem Qty(b:Qad)(k:Nat)(Y:ByteArray):(Qg0 b k Y).length=3:=by simp[Qg0,Qcl]
theorem torn_at(b:Qad){k:Nat}(hk:k<3)(Y:ByteArray):(Qg0 b k Y)[k]?=some (wasT b k++Y):=by
 obtain rfl|rfl|rfl:k=0\/k=1\/k=2:=by omega
 all_goals rfl
theorem Qwh(b:Qad){k:Nat}(hk:k<3)(Y:ByteArray):(Qg0 b k Y).set k (wasT b k)=Qcl b:=by
 obtain rfl|rfl|rfl:k=0\/k=1\/k=2:=by omega
 all_goals rfl
theorem cut_back(W Y:ByteArray):(W++Y).extract 0 W.size++(⟨#[]⟩:ByteArray)=W:=by
 have z:∀ X:ByteArray,X++(⟨#[]⟩:ByteArray)=X:=fun X=>by apply ByteArray.ext;rw[ByteArray.data_append];exact Array.append_empty
 rw[z,Qn3,Qdk (Nat.le_refl _),Nat.sub_self]
 have e:Y.extract 0 0=⟨#[]⟩:=by apply ByteArray.ext;simp[ByteArray.data_extract]
 rw[e,z]
theorem Qpy{b:Qad}(hB:Qar b=true)(k:Nat):(wasT b k).size<=260000:=by
 obtain⟨f1,f2,f3⟩:=Qea hB k
 rw[wasT,f2];exact f3
theorem torn_ok{b:Qad}(hB:Qar b=true){k:Nat}(hk:k<3){Y:ByteArray}(hY:Y.size<=2000):Qch (Qg0 b k Y)=true/\∀ x∈Qg0 b k Y,x.size<=300000:=by
 have hs:=Qpy hB k
 have f:∀ x∈Qg0 b k Y,x.size<=300000:=fun x hx=>by
  have hx:=List.mem_or_eq_of_mem_set hx
  rcases hx with hx|rfl
  · have f0:=(Qce hB 0).2;have f1:=(Qce hB 1).2;have f2:=(Qce hB 2).2
    simp only[Qcl,List.mem_cons,List.not_mem_nil,or_false] at hx
    rcases hx with rfl|rfl|rfl <;> assumption
  · rw[ByteArray.size_append];unfold wasT at hs;omega
 refine⟨?_,f⟩
 rw[Qch,Qty]
 simp only[beq_self_eq_true,Bool.true_and,List.all_eq_true]
 exact fun x hx=>by rw[Qik];exact decide_eq_true (f x hx)
theorem again_T{b:Qad}(hB:Qar b=true){k:Nat}(hk:k<3){Y:ByteArray}(hY:Y.size<=2000)(h0:0<Y.size)(hl:(unf (wasT b k++Y)).1.length=(Qay b k).length) :
 reBB b.width (Qg0 b k Y)=b/\reW b.width (Qg0 b k Y)=[⟨(k:Int),((wasT b k).size:Int),⟨#[]⟩⟩]/\Qdg b.width (Qg0 b k Y)=0:=by
 obtain⟨h1,h2,h3⟩:=Qut hB hk hY h0 hl
 refine⟨by rw[reBB,if_pos h2,h1],?_,h2⟩
 rw[reW,if_pos h2,h3];rfl
end Go.Proofs.YtbnkjgcpjeedfaaGreat
namespace Go.Proofs.YtbnkjgcpjeedfaaGreat
set_option maxHeartbeats 8000000
set_option maxRecDepth 100000
set_option linter.unusedSimpArgs false
open Go.RowKit
set_option linter.unusedVariables false
theorem ext_w{w w':World}(h:Ext w w'):∃ x,x=w':=⟨w',rfl⟩
theorem Qu6(A:Option Addr)(c:Nat)(l:List Qaf)(t:ByteArray)(w:World)(hr:SlF AnyB Qaf.cells 5 w A l c)(hl:l.length<=1048576) :
 Calls Tryz.prog 232 #[.agg #[.slice A l.length c],.string t] w fun e w'=>e=.returned (.int .i64 (cntT l t:Int))/\Ext w w':=by
 have HR:=hU hr
 have B0:=Blk.new w 26 #[.slice A l.length c]
 have he:=Ext.new (Below.refl w.heap.size w) (.cells #[.slice A l.length c] 26)
 obtain⟨r0,f0⟩:=B0.rules
 clear hr B0
 go_enter Tryz.func232,Tryz.ntmps232
 go_wp2_with fail
 clear r0 f0
 generalize w.alloc (.cells #[.slice A l.length c] 26)=w1 at *
 go_loopw [5,11] (fun n i wr=>∃(k:Nat),k<=l.length/\i=.int .i64 k/\n=.int .i64 (cntT (l.take k) t:Int)/\Ext w wr) (fun _ i _=>l.length-(intOf i).toNat)
 case atStart=>exact⟨0,Nat.zero_le _,rfl,rfl,he⟩
 case round=>
  obtain⟨k,hk,rfl,rfl,hx⟩:=hrel
  obtain⟨wr,rfl⟩:=ext_w hx
  clear he
  by_cases hlt:k<l.length
  case neg=>
   obtain rfl:k=l.length:=by omega
   have d1:decide ((l.length:Int)<(l.length:Int))=false:=by simp
   have E:=hU (show cntT (l.take l.length) t=cntT l t by rw[List.take_length])
   go_wp2_with fail
   go_ret
   exact⟨by rw[E.out];rfl,hx⟩
  have d1:decide ((k:Int)<(l.length:Int))=true:=by rw[decide_eq_true_eq];omega
  obtain⟨b,off,rfl,hb,hc⟩:=Qbb.at_ (HR.out.ext hx).reads (k:=k) hlt
  obtain⟨d,hd⟩:∃ d,d=l[k]:=⟨_,rfl⟩
  have hdl:l[k]?=some d:=by rw[hd];exact List.getElem?_eq_getElem hlt
  obtain⟨c0,c1,c2,c3,c4⟩:=Qdt hc hdl
  have Hn:=hU (Qn5 (t:=t) hdl)
  have hcl:=Qlt (l.take k) t
  rw[List.length_take] at hcl
  have hcl2:cntT (l.take k) t<=1048576:=by omega
  clear hc hd hdl hcl
  go_upto_region 5 with fail
  have Q:=Blk.new wr 40 #[.string d.topic,.int .i64 d.index,.int .i64 d.time,.string d.key,.string d.body]
  have h1:=Ext.new (Below.refl wr.heap.size wr) (.cells #[.string d.topic,.int .i64 d.index,.int .i64 d.time,.string d.key,.string d.body] 40)
  replace hx:=hx.next h1
  obtain⟨rq,fq⟩:=Q.rules
  clear h1 Q c0 c1 c2 c3 c4
  generalize wr.alloc (.cells #[.string d.topic,.int .i64 d.index,.int .i64 d.time,.string d.key,.string d.body] 40)=wq at *
  cases b1:(d.topic.toList==t.toList)
  · have E:=hU (show cntT (l.take (k+1)) t=cntT (l.take k) t by rw[Hn.out,Qgv,b1];rfl)
    go_wp2_with fail
    go_roundw
    case rel=>exact⟨k+1,by omega,by go_num,by rw[E.out],hx⟩
    case measure=>simp[intOf];omega
  · have E:=hU (show cntT (l.take (k+1)) t=cntT (l.take k) t+1 by rw[Hn.out,Qgv,b1];rfl)
    go_wp2_with fail
    go_roundw
    case rel=>exact⟨k+1,by omega,by go_num,by rw[E.out];go_num,hx⟩
    case measure=>simp[intOf];omega
def Qv5 (b:Qad) (d:Qaf) (K g:Nat) (v0 vr vh v1 v2:Value) (w:World) (e:Ending) (w':World):Prop:=
 (Qcu b.log.entries d≠0/\e=.returned (.tuple #[.int .i64 0,.int .i64 (Qcu b.log.entries d:Int)])/\Ext w w')\/
  (Qcu b.log.entries d=0/\e=.returned (.tuple #[.int .i64 (b.log.entries.length:Int),.int .i64 0])/\∃ ve,Blk w' g 37 (Qe8 (pbB0 b d) ve vr vh v1 v2).toArray/\Qb9 K w' (pbB0 b d) ve vr vh v1 v2/\Frm (fun y=>y=g\/v0.ownBlock=some y) w w')
theorem Qv5.no{b:Qad}{d:Qaf}{K g:Nat}{v0 vr vh v1 v2:Value}{w w':World}{e:Ending}{k:Nat}(h:Qcu b.log.entries d=k)(h0:k≠0)(he:e=.returned (.tuple #[.int .i64 0,.int .i64 (k:Int)]))(hx:Ext w w'):Qv5 b d K g v0 vr vh v1 v2 w e w':=
 .inl ⟨by omega,by rw[h];exact he,hx⟩
theorem Qse(b:Qad)(d:Qaf)(g:Nat)(A0:Option Addr)(a0:Nat)(A1:Option Addr)(a1:Nat)(A2:Option Addr)(a2:Nat)(A3:Option Addr)(a3:Nat)(A4:Option Addr)(a4:Nat)(K:Nat)(w:World)(hb:Blk w g 37 #[.int .i64 b.width,.slice A0 b.log.entries.length a0,.slice A1 b.receipts.length a1,.slice A2 b.heads.length a2,.int .i64 b.sealed.leaves.size,.slice A3 b.sealed.leaves.peaks.length a3,.int .i64 b.sealed.taken.size,.slice A4 b.sealed.taken.peaks.length a4,.int .i64 b.sealed.head.number,.int .i64 b.sealed.head.size,.string b.sealed.head.root,.int .i64 b.sealed.head.taken,.string b.sealed.head.takenRoot])(hrows:Qb9 K w b (.slice A0 b.log.entries.length a0) (.slice A1 b.receipts.length a1) (.slice A2 b.heads.length a2) (.slice A3 b.sealed.leaves.peaks.length a3) (.slice A4 b.sealed.taken.peaks.length a4))(hd:d.Ok)(hl:b.log.entries.length<=1048576)(hKg:K<=g)(hKw:K<=w.heap.size) :
 Calls Tryz.prog 173 #[.pointer (some ⟨g,1,none⟩),.string d.topic,.int .i64 d.time,.string d.key,.string d.body] w (Qv5 b d K g (.slice A0 b.log.entries.length a0) (.slice A1 b.receipts.length a1) (.slice A2 b.heads.length a2) (.slice A3 b.sealed.leaves.peaks.length a3) (.slice A4 b.sealed.taken.peaks.length a4) w):=by
 obtain⟨i0,hi,hz0,hz1,hz2⟩:=info_parts Qlq
 have hgw:=hb.lt
 have BG:=hU hb;have RW:=hU hrows;have HD:=hU hd
 have S0:=hU (Qb6 hrows.e)
 have he:Ext w w:=Below.refl w.heap.size w
 obtain⟨n,hn⟩:∃ n,n=b.log.entries.length:=⟨_,rfl⟩
 have HN:=hU hn
 have NX:=hU (fun(W:World) (hW:Ext w W)=>Qu6 A0 a0 b.log.entries d.topic W (S0.out.ext hW) hl)
 rw[<-hn] at hl NX
 rw[<-hn]
 clear hb hrows hd hn
 go_enter Tryz.func173,Tryz.ntmps173
 go_wp2_with fail
 refine(Qi7 d.topic _ HD.out.1).mono ?_
 rintro e w1 ⟨rfl,rfl⟩
 cases p1:Qcn d.topic
 · have E:=hU (ad2 (l:=b.log.entries) p1)
   go_wp2_with fail
   go_ret2
   exact Qv5.no E.out (by decide) rfl he
 go_wp2_with fail
 refine(Qm5 d.time d.key d.body _ HD.out.2.2.2.1 HD.out.2.2.2.2).mono ?_
 rintro e w1 ⟨rfl,rfl⟩
 cases p2:Qef d.time d.key d.body
 · have E:=hU (ad3 (l:=b.log.entries) p1 p2)
   go_wp2_with fail
   go_ret2
   exact Qv5.no E.out (by decide) rfl he
 have G1:=BG.out
 rw[<-HN.out] at G1
 obtain⟨rg,fg⟩:=G1.rules
 by_cases p3:512<=n
 · have E:=hU (ad4 (l:=b.log.entries) p1 p2 (by rw[<-HN.out];exact p3))
   have g0:decide ((512:Int)<=(n:Int))=true:=decide_eq_true (by omega)
   clear G1
   go_wp2_with fail
   go_ret2
   exact Qv5.no E.out (by decide) rfl he
 have E:=hU (ad0 (l:=b.log.entries) p1 p2 (by rw[<-HN.out];exact p3))
 have g0:decide ((512:Int)<=(n:Int))=false:=decide_eq_false (by omega)
 clear G1
 go_wp2_with fail
 refine(NX.out _ he).mono ?_
 rintro e w1 ⟨rfl,h1⟩
 replace he:=he.next h1
 clear h1 rg fg g0
 obtain⟨nx,hnx⟩:∃ nx,nx=(cntT b.log.entries d.topic:Int):=⟨_,rfl⟩
 have HNX:=hU hnx
 rw[<-hnx]
 clear hnx
 go_upto_region 8 with fail
 have Q:=Blk.new w1 40 #[.string d.topic,.int .i64 nx,.int .i64 d.time,.string d.key,.string d.body]
 have h1:=Ext.new (Below.refl w1.heap.size w1) (.cells #[.string d.topic,.int .i64 nx,.int .i64 d.time,.string d.key,.string d.body] 40)
 replace he:=he.next h1
 obtain⟨q,hq⟩:∃ q,q=w1.heap.size:=⟨_,rfl⟩
 rw[<-hq] at Q
 rw[<-hq]
 clear h1 hq
 generalize w1.alloc (.cells #[.string d.topic,.int .i64 nx,.int .i64 d.time,.string d.key,.string d.body] 40)=w2 at *
 have G1:=BG.out.ext he
 have RX:Qb9 K _ b _ _ _ _ _:=RW.out.ext he
 rw[<-HN.out] at G1 RX
 refine wp_region_any (by kernel_rfl) ?_
 change wpAny _ _ _ _ _ _ _ (World.drew _)
 refine Qgi (i:=0) (oi:=_) (v:=.pointer (some ⟨g,1,none⟩)) (some 40) rfl rfl (by kernel_rfl) (by kernel_rfl) (by kernel_rfl) (fun _ a b _ e h=>by cases a;cases b;cases e;exact h) (Or.inl ⟨by rfl,?z0⟩) ?rz0
 case z0=>intro w';go_simp;try with_reducible rfl
 try simp only[zA]
 refine Qgi (i:=1) (oi:=_) (v:=.pointer (some ⟨g,1,none⟩)) (some 41) rfl rfl (by kernel_rfl) (by kernel_rfl) (by kernel_rfl) (fun _ a b _ e h=>by cases a;cases b;cases e;exact h) (Or.inl ⟨by rfl,?z1⟩) ?rz1
 case z1=>intro w';go_simp;try with_reducible rfl
 try simp only[zA]
 refine Qgi (i:=2) (oi:=_) (v:=.pointer (some ⟨g,1,none⟩)) (some 42) rfl rfl (by kernel_rfl) (by kernel_rfl) (by kernel_rfl) (fun _ a b _ e h=>by cases a;cases b;cases e;exact h) (Or.inl ⟨by rfl,?z2⟩) ?rz2
 case z2=>intro w';go_simp;try with_reducible rfl
 try simp only[zA]
 refine Qgi (i:=3) (oi:=_) (v:=.pointer (some ⟨g,1,none⟩)) (some 43) rfl rfl (by kernel_rfl) (by kernel_rfl) (by kernel_rfl) (fun _ a b _ e h=>by cases a;cases b;cases e;exact h) (Or.inl ⟨by rfl,?z3⟩) ?rz3
 case z3=>intro w';go_simp;try with_reducible rfl
 try simp only[zA]
 refine Qjj [(4,some 44),(5,some 45),(6,some 46)] (fun i v w'=>match i with
  | 4=>v=.slice A0 n a0
  | 5=>v=.agg #[.string d.topic,.int .i64 nx,.int .i64 d.time,.string d.key,.string d.body]
  | 6=>∃ Q,v=.slice (some ⟨Q,0,none⟩) 1 1/\Blk w' Q 40 #[.string d.topic,.int .i64 nx,.int .i64 d.time,.string d.key,.string d.body]
  | _=>True) (fun w'=>Blk w' g 37 #[.int .i64 b.width,.slice A0 n a0,.slice A1 b.receipts.length a1,.slice A2 b.heads.length a2,.int .i64 b.sealed.leaves.size,.slice A3 b.sealed.leaves.peaks.length a3,.int .i64 b.sealed.taken.size,.slice A4 b.sealed.taken.peaks.length a4,.int .i64 b.sealed.head.number,.int .i64 b.sealed.head.size,.string b.sealed.head.root,.int .i64 b.sealed.head.taken,.string b.sealed.head.takenRoot]/\Blk w' q 40 #[.string d.topic,.int .i64 nx,.int .i64 d.time,.string d.key,.string d.body]/\Qb9 K w' b (.slice A0 n a0) (.slice A1 b.receipts.length a1) (.slice A2 b.heads.length a2) (.slice A3 b.sealed.leaves.peaks.length a3) (.slice A4 b.sealed.taken.peaks.length a4)/\Ext w w') (fun w1 w2=>Ext w1 w2) (n:=4) (by kernel_rfl) (by rfl) (fun _ a b _ e h=>by cases a;cases b;cases e;exact h) ?hR ⟨G1.drew,Q.drew,RX.ext (Below.refl _ _).drew,he.drew⟩ ?hst ?hend
 case hR=>
  intro j v wa wb hx h
  split
  · exact h
  · exact h
  · obtain⟨Q,h1,h2⟩:=h;exact⟨Q,h1,h2.ext hx⟩
  · trivial
 case hst=>
  clear G1 RX Q he
  refine Qbo.cons [] (o:=_) rfl rfl rfl (by kernel_rfl) (fun vals u hv hS K' hK=>?_) ?_
  · clear hv
    obtain⟨r0,f0⟩:=hS.1.rules
    refine⟨?_⟩
    (try simp only[zB] at hK ⊢)
    go_simp
    exact hK.out _ _ ⟨_,rfl,rfl⟩ hS (Below.refl _ _)
  refine Qbo.cons [] (o:=_) rfl rfl rfl (by kernel_rfl) (fun vals u hv hS K' hK=>?_) ?_
  · clear hv
    obtain⟨r0,f0⟩:=hS.2.1.rules
    refine⟨?_⟩
    (try simp only[zB] at hK ⊢)
    go_simp
    exact hK.out _ _ ⟨_,rfl,rfl⟩ hS (Below.refl _ _)
  refine Qbo.cons [5] (o:=_) rfl rfl rfl (by kernel_rfl) (fun vals u hv hS K' hK=>?_) ?_
  · obtain⟨hv,_⟩:=hv
    have h1:=Ext.new (Below.refl u.heap.size u) (.cells #[.string d.topic,.int .i64 nx,.int .i64 d.time,.string d.key,.string d.body] 40)
    have F:=hK.out _ (u.alloc (.cells #[.string d.topic,.int .i64 nx,.int .i64 d.time,.string d.key,.string d.body] 40)) ⟨_,rfl,u.heap.size,rfl,Blk.new _ _ _⟩ ⟨hS.1.ext h1,hS.2.1.ext h1,hS.2.2.1.ext h1,hS.2.2.2.next h1⟩ h1
    refine⟨?_⟩
    (try simp only[zB] at hK F ⊢)
    simp only at hv
    rw[hv] at hK F ⊢
    clear hv
    go_simp
    exact F
  exact Qbo.nil
 case hend=>
  clear G1 RX Q he
  intro vals w8 hv hS
  obtain⟨hv4,hv5,⟨Q,hv6,bq⟩,_⟩:=hv
  simp only at hv4 hv5 hv6
  try simp only[zB]
  rw[hv4,hv5,hv6]
  clear hv4 hv5 hv6
  obtain⟨g8,_,rx,he⟩:=hS
  have rxe:w8.ownsRow K 40 5 (.slice A0 n a0) n (b.log.entries.flatMap Qaf.cells):=by rw[HN.out];have h:=rx.e;rw[HN.out] at h;exact h
  refine oneA 7 (oi:=_) (some 47) (by kernel_rfl) rfl rfl rfl (fun K' hK=>?_)
  refine⟨?_⟩;rw[if_pos (by rfl)]
  refine Qem _ _ _ 24 (by rfl) K 40 i0 _ 5 64 Tryz.underlying24 hi hz0 hz1 hz2 rfl (by decide) (.slice A0 n a0) n (b.log.entries.flatMap Qaf.cells) (by rfl) rxe ⟨Q,0,none⟩ 1 1 [.string d.topic,.int .i64 nx,.int .i64 d.time,.string d.key,.string d.body] (by rfl) (by rfl) bq.adds (by intro u hu;simp at hu;rcases hu with rfl|rfl|rfl|rfl|rfl <;> rfl) ?_ ?_ ?_ (fun v' w9 ho hf hm=>?_)
  · unfold maxLen;omega
  · omega
  · exact Nat.le_trans hKw he.size
  obtain⟨V1,v1,rfl,_⟩:=Qae ho
  have g9:=hf.blk g8 (fun e=>Qew rxe g8 (by decide) _ e rfl)
  have fr:=hf.own rx.r (fun y hy e2=>Qbq rx.r rxe (by decide) y hy e2)
  have fh:=hf.own rx.h (fun y hy e2=>Qbq rx.h rxe (by decide) y hy e2)
  have fp:=hf.own rx.p (fun y hy e2=>Qbq rx.p rxe (by decide) y hy e2)
  have fq:=hf.own rx.q (fun y hy e2=>Qbq rx.q rxe (by decide) y hy e2)
  have fe:w9.ownsRow K 40 5 (.slice V1 (n+1) v1) (pbB0 b d).log.entries.length ((pbB0 b d).log.entries.flatMap Qaf.cells):=by
   have e1:(pbB0 b d).log.entries.length=n+1:=by rw[HN.out];simp[pbB0]
   have e2:(pbB0 b d).log.entries.flatMap Qaf.cells=b.log.entries.flatMap Qaf.cells++[.string d.topic,.int .i64 nx,.int .i64 d.time,.string d.key,.string d.body]:=by rw[HNX.out];simp[pbB0,Qfw,Qla,Qaf.cells]
   rw[e1,e2];exact ho
  have bl:Frm (fun y=>y=g\/(Value.slice A0 n a0).ownBlock=some y) w w9:=(Frm.of_ext he).next hf (fun y _ hy=>.inr hy)
  have z1:Blk (w9.setCell ⟨g,1,none⟩ (.slice V1 (n+1) v1)) g 37 (Qe8 (pbB0 b d) (.slice V1 (n+1) v1) (.slice A1 b.receipts.length a1) (.slice A2 b.heads.length a2) (.slice A3 b.sealed.leaves.peaks.length a3) (.slice A4 b.sealed.taken.peaks.length a4)).toArray:=g9.put 1 [.slice V1 (n+1) v1] (Qe8 (pbB0 b d) (.slice V1 (n+1) v1) (.slice A1 b.receipts.length a1) (.slice A2 b.heads.length a2) (.slice A3 b.sealed.leaves.peaks.length a3) (.slice A4 b.sealed.taken.peaks.length a4)).toArray (by simp) rfl
  have z2:Qb9 K (w9.setCell ⟨g,1,none⟩ (.slice V1 (n+1) v1)) (pbB0 b d) (.slice V1 (n+1) v1) (.slice A1 b.receipts.length a1) (.slice A2 b.heads.length a2) (.slice A3 b.sealed.leaves.peaks.length a3) (.slice A4 b.sealed.taken.peaks.length a4):=⟨Qa1 fe g9 (by decide) [_] _,Qa1 fr g9 (by decide) [_] _,Qa1 fh g9 (by decide) [_] _,Qa1 fp g9 (by decide) [_] _,Qa1 fq g9 (by decide) [_] _⟩
  have z4:Frm (fun y=>y=g\/(Value.slice A0 n a0).ownBlock=some y) w (w9.setCell ⟨g,1,none⟩ (.slice V1 (n+1) v1)):=Frm.setCells bl (g:=g) (fun _=>.inl rfl) [.slice V1 (n+1) v1] 1
  have Z1:=hU z1;have Z2:=hU z2;have Z4:=hU z4
  have c1:=g9.cell 1
  have f1:=g9.frozen 1
  have x1:(w9.setCell ⟨g,1,none⟩ (.slice V1 (n+1) v1)).cell? ⟨g,1,none⟩=some (.slice V1 (n+1) v1):=z1.cell 1
  refine hK.out _ _ ⟨_,rfl⟩ ?_
  clear hK K' hm hf ho fe fh fp fq fr bl z1 z2 z4 rx rxe he g8 bq g9
  try simp only[zB]
  refine Qgi (i:=8) (oi:=_) (v:=.pointer (some ⟨g,1,none⟩)) (some 48) rfl rfl (by kernel_rfl) (by kernel_rfl) (by kernel_rfl) (fun _ a b _ e h=>by cases a;cases b;cases e;exact h) (Or.inl ⟨by rfl,?z8⟩) ?rz8
  case z8=>intro w';go_simp;try with_reducible rfl
  try simp only[zA]
  refine Qgi (i:=9) (oi:=_) (v:=.pointer (some ⟨g,1,none⟩)) (some 49) rfl rfl (by kernel_rfl) (by kernel_rfl) (by kernel_rfl) (fun _ a b _ e h=>by cases a;cases b;cases e;exact h) (Or.inl ⟨by rfl,?z9⟩) ?rz9
  case z9=>intro w';go_simp;try with_reducible rfl
  try simp only[zA]
  refine oneA 10 (oi:=_) none (by kernel_rfl) rfl rfl rfl (fun K' hK=>?_)
  have F:=hK.out { tmps:=_,defers:=_ } (w9.setCell ⟨g,1,none⟩ (.slice V1 (n+1) v1)) ⟨undef,rfl⟩
  refine⟨?_⟩
  rw[if_pos (by rfl)]
  go_simp
  refine F ?_
  clear F hK K' c1 f1
  refine wpAny_done (by kernel_rfl) ?_ _
  try simp only[zB]
  generalize w9.setCell ⟨g,1,none⟩ (.slice V1 (n+1) v1)=wz at *
  have a1_:IntKind.i64.wrap (((n+1:Nat):Int)-1)=(n:Int):=by rw[IntWalk.i64_in _ (by omega)];omega
  go_wp2_with fail
  go_ret2
  refine .inr ⟨E.out,?_,_,Z1.out,?_,?_⟩
  · rw[<-HN.out];rfl
  · exact Z2.out
  · exact Z4.out
end Go.Proofs.YtbnkjgcpjeedfaaGreat

/-
  MendI; AftI; AftT; CanA: No condition.
-/
import Derived.Test.YtbnkjgcpjeedfaaGreatPubA
import Derived.Test.YtbnkjgcpjeedfaaGreatCutI
import Derived.Test.YtbnkjgcpjeedfaaGreatCutQ
import Derived.Test.YtbnkjgcpjeedfaaGreatReopen2
import Derived.Test.YtbnkjgcpjeedfaaGreatRets
namespace Go.Proofs.YtbnkjgcpjeedfaaGreat
set_option linter.unusedSimpArgs false
open Go.RowKit
set_option linter.unusedVariables false
structure Mend (B:Qad) (T:List ByteArray) (W:List Qbs):Prop where
 ok:Qar B=true
 len:T.length=3
 disk:Qch T=true
 small:∀ x∈T,x.size<=300000
 back:reBB B.width T=B
 wr:reW B.width T=W
 code:Qdg B.width T=0
 way:(W=[]/\T=Qcl B)\/∃(k:Nat) (s:ByteArray) (p:Nat),k<3/\T[k]?=some s/\W=[⟨(k:Int),(p:Int),⟨#[]⟩⟩]/\p<=s.size/\s.size<=300000/\p<=300000/\T.set k (s.extract 0 p++(⟨#[]⟩:ByteArray))=Qcl B
theorem Qtj{B:Qad}(hB:Qar B=true):∀ x∈Qcl B,x.size<=300000:=fun x hx=>by
 have f0:=(Qce hB 0).2;have f1:=(Qce hB 1).2;have f2:=(Qce hB 2).2
 simp only[Qcl,List.mem_cons,List.not_mem_nil,or_false] at hx
 rcases hx with rfl|rfl|rfl <;> assumption
theorem Qi1{B:Qad}(hB:Qar B=true):Mend B (Qcl B) []:=by
 obtain⟨h1,h2,h3,_⟩:=Qyg hB
 exact⟨hB,rfl,Qqt hB,Qtj hB,h1,h2,h3,Or.inl ⟨rfl,rfl⟩⟩
theorem Qxs{B:Qad}(hB:Qar B=true){k:Nat}(hk:k<3){Y:ByteArray}(hY:Y.size<=2000)(h0:0<Y.size)(hl:(unf (wasT B k++Y)).1.length=(Qay B k).length) :
 Mend B (Qg0 B k Y) [⟨(k:Int),((wasT B k).size:Int),⟨#[]⟩⟩]:=by
 obtain⟨a1,a2,a3⟩:=again_T hB hk hY h0 hl
 obtain⟨b1,b2⟩:=torn_ok hB hk hY
 have hw:=Qpy hB k
 have hsz:(wasT B k++Y).size=(wasT B k).size+Y.size:=ByteArray.size_append
 exact⟨hB,Qty B k Y,b1,b2,a1,a2,a3,Or.inr ⟨k,wasT B k++Y,(wasT B k).size,hk,torn_at B hk Y,rfl,by omega,by omega,by omega,by rw[cut_back];exact Qwh B hk Y⟩⟩
theorem Qoe{B:Qad}{T:List ByteArray}{W:List Qbs}(h:Mend B T W)(q c:Nat)(w:World)(hr:SlF AnyB sone 1 w (some ⟨q,0,none⟩) T c) :
 Calls Tryz.prog 19 #[.int .i64 B.width,.agg #[.slice (some ⟨q,0,none⟩) 3 c]] w fun e w'=>∃(N:List Value) (V:Option Addr) (vc:Nat),e=.returned (.tuple #[.agg N.toArray,.slice V W.length vc,.int .i64 0])/\BVal w.heap.size B N w'/\Qav w' w'.heap.size Qbs.cells 3 V W/\W.length<=vc/\Ext w w':=by
 have h2:=Qje B.width (some ⟨q,0,none⟩) c T w hr.reads (by rw[h.len];decide) (fun x hx=>by have:=h.small x hx;omega)
 rw[h.len] at h2
 refine h2.mono ?_
 rintro e w' ⟨ve,vr,vh,v1,v2,vw,he,hr,ha,ho,hx⟩
 rw[h.back] at hr he
 rw[h.wr] at ho
 rw[h.code] at he
 obtain⟨V,vc,rfl,hvc⟩:=Qae ho
 exact⟨_,V,vc,he,Qwb hr ha,Qbb.of_own ho,hvc,hx⟩
theorem Qoi{B:Qad}{T:List ByteArray}{W:List Qbs}(h:Mend B T W){n:Nat}(hn:n<=W.length) :
 ∃(T2:List ByteArray) (W2:List Qbs),Mend B T2 W2/\(n=W.length->T2=Qcl B/\W2=[])/\∀(q c:Nat) (V:Option Addr) (vc:Nat) (w:World),SlF AnyB sone 1 w (some ⟨q,0,none⟩) T c->Qav w w.heap.size Qbs.cells 3 V W->Calls Tryz.prog 20 #[.agg #[.slice (some ⟨q,0,none⟩) 3 c],.slice V n vc] w fun e w'=>Qtu T2 (.int .i64 (n:Int)) w e w':=by
 rcases h.way with⟨rfl,hT⟩|⟨k,s,p,hk,hs,hW,hp,hs3,hp3,hback⟩
 · obtain rfl:n=0:=by simpa using hn
   exact⟨T,[],h,fun _=>⟨hT,rfl⟩,fun q c V vc w hr hw=>Qj0 q c T V vc w h.len h.disk hr⟩
 · have h1:W.length=1:=by rw[hW];rfl
   rcases Nat.eq_zero_or_pos n with h0|h0
   · subst h0
     exact⟨T,W,h,fun e=>by omega,fun q c V vc w hr hw=>Qj0 q c T V vc w h.len h.disk hr⟩
   · obtain rfl:n=1:=by omega
     refine⟨Qcl B,[],Qi1 h.ok,fun _=>⟨rfl,rfl⟩,fun q c V vc w hr hw=>?_⟩
     rw[hW] at hw
     have h2:=Qoh q c k p T s ⟨#[]⟩ V vc w h.len h.disk hr hw hk hs hp hs3 (by show 0+p<=300000;omega)
     rw[hback] at h2
     exact h2
theorem mend_cut{b b':Qad}{f:Nat}{t:ByteArray}(d:Deed b b' f t){part:Nat}(hp:part<=(Qax t).size) :
 ∃(B:Qad) (W:List Qbs),Mend B (if part=0 then Qcl b else(Qcl b).set f ((wasT b f).extract 0 (wasT b f).size++(Qax t).extract 0 part)) W/\B.width=b.width/\B=(if part=(Qax t).size then b' else b):=by
 obtain⟨o1,o2,o3,o4⟩:=d.out
 have hx:(wasT b f).extract 0 (wasT b f).size=wasT b f:=Qdk (Nat.le_refl _)
 by_cases h0:part=0
 · rw[if_pos h0,if_neg (by rw[o2];omega)]
   exact⟨b,[],Qi1 d.was,rfl,rfl⟩
 rw[if_neg h0,hx]
 by_cases h1:part=(Qax t).size
 · rw[if_pos h1,h1,Qdk (Nat.le_refl _),show(Qcl b).set f (wasT b f++Qax t)=Qcl b' from d.disk]
   exact⟨b',[],Qi1 d.ok,d.wd,rfl⟩
 · rw[if_neg h1]
   have hs:((Qax t).extract 0 part).size=part:=by rw[ByteArray.size_extract];omega
   refine⟨b,_,Qxs d.was d.lt (Y:=(Qax t).extract 0 part) (by rw[hs,<-o2] at *;omega) (by rw[hs];omega) (d.cut (by omega)),rfl,rfl⟩
theorem mend_all{b b':Qad}{f:Nat}{t:ByteArray}(d:Deed b b' f t):Mend b' ((Qcl b).set f ((wasT b f).extract 0 (wasT b f).size++Qax t)) []:=by
 have hx:(wasT b f).extract 0 (wasT b f).size=wasT b f:=Qdk (Nat.le_refl _)
 rw[hx,show(Qcl b).set f (wasT b f++Qax t)=Qcl b' from d.disk]
 exact Qi1 d.ok
set_option maxHeartbeats 16000000
set_option maxRecDepth 100000
theorem Qk4{K g:Nat}{B:Qad}{N:List Value}{w:World}{cs:Array Value}(h:BVal K B N w)(hb:Blk w g 52 cs)(vs:List Value)(o:Nat):BVal K B N (w.setCells g o vs):=by
 obtain⟨X0,x0,X1,x1,X2,x2,X3,x3,X4,x4,h1,h2,h3⟩:=h
 have f:∀ {e s n:Nat} {v:Value} {xs:List Value},52≠e->w.ownsRow K e s v n xs->(w.setCells g o vs).ownsRow K e s v n xs:=fun he h=>(Frm.setCells (Frm.refl (fun b=>b=g) w) (g:=g) (fun _=>rfl) vs o).own h (fun y hy=>Qew h hb he y hy)
 exact⟨X0,x0,X1,x1,X2,x2,X3,x3,X4,x4,h1,⟨f (by decide) h2.e,f (by decide) h2.r,f (by decide) h2.h,f (by decide) h2.p,f (by decide) h2.q⟩,h3⟩
def Qyn (B:Qad) (w:World) (e:Ending) (w':World):Prop:=∃(N:List Value) (q' c':Nat) (cur:Array Value),e=.returned (.tuple #[.agg N.toArray,.agg #[.slice (some ⟨q',0,none⟩) 3 c'],.int .i64 0])/\BVal w.heap.size B N w'/\Blk w' q' 9 cur/\cur.toList.take 3=(Qcl B).flatMap sone/\w.heap.size<=q'/\Ext w w'/\(3<=c'/\c'<=maxLen)
theorem Qqy(b B:Qad)(T0:List ByteArray)(W0:List Qbs)(M:List Value)(V:Option Addr)(vc:Nat)(wh pt:Int)(ag:Nat)(w:World)(hB:Qar b=true)(hM:Mend B T0 W0)(hwd:B.width=b.width)(hm:BRdL AnyB b M w)(h13:M.length=13)(hag:ag<=100)
 (CA:∀(q c:Nat) (W:World),Ext w W->SlF AnyB sone 1 W (some ⟨q,0,none⟩) (Qcl b) c->Calls Tryz.prog 103 #[.agg #[.slice (some ⟨q,0,none⟩) 3 c],.slice V 1 vc,.int .i64 wh,.int .i64 pt] W fun e w'=>Qtu T0 (.bool true) W e w') :
 Calls Tryz.prog 46 #[.agg M.toArray,.slice V 1 vc,.int .i64 wh,.int .i64 pt,.int .i64 (ag:Int)] w fun e w'=>Qyn B w e w':=by
 have HM13:=hU h13
 obtain⟨X0,x0,X1,x1,X2,x2,X3,x3,X4,x4,hMe,s⟩:=hm
 have DK:=hU (fun(g:Nat) (W:World) (hW:Ext w W) (hb:Blk W g 37 (brkV b X0 x0 X1 x1 X2 x2 X3 x3 X4 x4).toArray)=>Qr7 b g X0 x0 X1 x1 X2 x2 X3 x3 X4 x4 W hb (s.any.ext hW) hB)
 have HCW:Hid (∀(g:Nat) (W:World),Blk W g 37 M.toArray->W.cell? ⟨g,0,none⟩=some (.int .i64 b.width)):=hU (fun g W h=>by rw[hMe] at h;exact h.cell 0)
 rw[<-hMe] at DK
 have RO:=hU (fun(q c:Nat) (W:World) (h:SlF AnyB sone 1 W (some ⟨q,0,none⟩) T0 c)=>Qoe hM q c W h)
 obtain⟨n,hn⟩:∃ n,n=min ag W0.length:=⟨_,rfl⟩
 obtain⟨T2,W2,hM2,_,hput⟩:=Qoi hM (n:=n) (by omega)
 have PA:=hU hput
 have RO2:=hU (fun(q c:Nat) (W:World) (h:SlF AnyB sone 1 W (some ⟨q,0,none⟩) T2 c)=>Qoe hM2 q c W h)
 obtain⟨T3,W3,hM3,hall,hput2⟩:=Qoi hM2 (n:=W2.length) (Nat.le_refl _)
 obtain⟨rfl,rfl⟩:=hall rfl
 have PA2:=hU hput2
 rw[hwd] at RO RO2
 have HL0:=hU hM.len;have HL2:=hU hM2.len
 obtain⟨m0,hm0⟩:∃ m0,m0=W0.length:=⟨_,rfl⟩
 obtain⟨m2,hm2⟩:∃ m2,m2=W2.length:=⟨_,rfl⟩
 rw[<-hm0] at hn RO
 rw[<-hm2] at RO2 PA2
 have hm1:m0<=1:=by
  rw[hm0]
  rcases hM.way with⟨h,_⟩|⟨k,s,p,_,_,h,_⟩ <;> (rw[h];simp)
 have hmin:min (ag:Int) (m0:Int)=(n:Int):=by omega
 have hmin2:(if(ag:Int)<=(m0:Int) then(ag:Int) else(m0:Int))=(n:Int):=by split <;> omega
 have hmax:max (0:Int) (n:Int)=(n:Int):=by omega
 have HNM:=hU (show n<=m0 by omega)
 have HCA:=hU CA
 clear hMe s hput hput2 hM hM2 hM3 hall hn hm0 hm2 CA hwd h13 hB
 obtain⟨w1,hw1⟩:∃ w1,w1=((w.alloc (.cells M.toArray 37)).alloc (.cells #[.int .i64 0,.slice none 0 0,.slice none 0 0,.slice none 0 0,.int .i64 0,.slice none 0 0,.int .i64 0,.slice none 0 0,.int .i64 0,.int .i64 0,.string ⟨#[]⟩,.int .i64 0,.string ⟨#[]⟩] 37)).alloc (.cells #[.slice none 0 0] 52):=⟨_,rfl⟩
 have B5:Blk w1 w.heap.size 37 M.toArray:=by rw[hw1];exact((Blk.new w _ _).alloc _).alloc _
 have B10:Blk w1 (w.heap.size+1) 37 #[.int .i64 0,.slice none 0 0,.slice none 0 0,.slice none 0 0,.int .i64 0,.slice none 0 0,.int .i64 0,.slice none 0 0,.int .i64 0,.int .i64 0,.string ⟨#[]⟩,.int .i64 0,.string ⟨#[]⟩]:=by
  rw[hw1]
  have:=Blk.new (w.alloc (.cells M.toArray 37)) 37 #[.int .i64 0,.slice none 0 0,.slice none 0 0,.slice none 0 0,.int .i64 0,.slice none 0 0,.int .i64 0,.slice none 0 0,.int .i64 0,.int .i64 0,.string ⟨#[]⟩,.int .i64 0,.string ⟨#[]⟩]
  rw[World.size_alloc] at this
  exact this.alloc _
 have B11:Blk w1 (w.heap.size+1+1) 52 #[.slice none 0 0]:=by
  rw[hw1]
  have:=Blk.new ((w.alloc (.cells M.toArray 37)).alloc (.cells #[.int .i64 0,.slice none 0 0,.slice none 0 0,.slice none 0 0,.int .i64 0,.slice none 0 0,.int .i64 0,.slice none 0 0,.int .i64 0,.int .i64 0,.string ⟨#[]⟩,.int .i64 0,.string ⟨#[]⟩] 37)) 52 #[.slice none 0 0]
  rw[World.size_alloc,World.size_alloc] at this
  exact this
 have he:Ext w w1:=by rw[hw1];exact Ext.new (Ext.new (Ext.new (Below.refl w.heap.size w) _) _) _
 go_enter Tryz.func46,Tryz.ntmps46
 go_upto_region 1 with fail
 rw[<-hw1]
 obtain⟨g,hg⟩:∃ g,g=w.heap.size:=⟨_,rfl⟩
 rw[<-hg] at B5 B10 B11
 rw[<-hg]
 have hgw:w.heap.size<=g:=by omega
 clear hw1 hg
 have D1:=hU (DK.out g w1 he B5)
 have K5:=hU B5;have K10:=hU B10;have K11:=hU B11;have HE:=hU he
 clear B5 B10 B11 he DK
 go_wp2_with fail
 refine D1.out.mono ?_
 rintro e w2 ⟨q,rfl,hq,kq,h1⟩
 have SQ:=hU (Qgq (T:=Qcl b) kq rfl rfl ⟨Nat.le_refl 3,by unfold maxLen;omega⟩)
 have CT:=hU (HCA.out q 3 w2 (HE.out.next h1) SQ.out)
 replace K5:=hU (K5.out.ext h1);replace K10:=hU (K10.out.ext h1);replace K11:=hU (K11.out.ext h1);replace HE:=hU (HE.out.next h1)
 clear kq h1 hq SQ HCA D1
 go_wp2_with fail
 refine CT.out.mono ?_
 rintro e w3 ⟨q1,c1,cur1,rfl,kq1,hcu1,hqq1,h1,hcb1⟩
 have S1:=hU (Qgq kq1 hcu1 HL0.out hcb1)
 have l11:=K11.out.lt
 replace K5:=hU (K5.out.ext h1);replace K10:=hU (K10.out.ext h1);replace K11:=hU (K11.out.ext h1);replace HE:=hU (HE.out.next h1)
 have l3:=Nat.lt_of_lt_of_le l11 h1.size
 have hx:=Ext.new (Below.refl w3.heap.size w3) (.cells #[.slice (some ⟨q1,0,none⟩) 3 c1] 52)
 have K13:=hU (Blk.new w3 52 #[.slice (some ⟨q1,0,none⟩) 3 c1])
 replace S1:=hU (S1.out.ext hx);replace K5:=hU (K5.out.ext hx);replace K10:=hU (K10.out.ext hx);replace K11:=hU (K11.out.ext hx);replace HE:=hU (HE.out.next hx)
 have E13:=hU hx
 clear kq1 hcu1 hqq1 h1 hcb1 hx CT l11
 go_upto_region 2 with fail
 obtain⟨g13,hg13⟩:∃ g13,g13=w3.heap.size:=⟨_,rfl⟩
 rw[<-hg13] at K13 l3
 rw[<-hg13]
 have G13:=hU (show w3.heap.size<=g13 by omega)
 clear hg13
 generalize w3.alloc (.cells #[.slice (some ⟨q1,0,none⟩) 3 c1] 52)=w4 at *
 have cw:=HCW.out g w4 K5.out
 obtain⟨r13,f13⟩:=K13.out.rules
 go_wp2_with fail
 refine(RO.out q1 c1 w4 S1.out).mono ?_
 rintro e w5 ⟨N,V1,vc1,rfl,hn,hw1,hvc1,h1⟩
 have N13:=hU hn.len;have N1:=hU hn.one
 replace S1:=hU (S1.out.ext h1);replace K5:=hU (K5.out.ext h1);replace K10:=hU (K10.out.ext h1);replace K11:=hU (K11.out.ext h1);replace K13:=hU (K13.out.ext h1);replace HE:=hU (HE.out.next h1);replace E13:=hU (E13.out.next h1)
 have KZ:=Blk.new w5 37 #[.int .i64 0,.slice none 0 0,.slice none 0 0,.slice none 0 0,.int .i64 0,.slice none 0 0,.int .i64 0,.slice none 0 0,.int .i64 0,.int .i64 0,.string ⟨#[]⟩,.int .i64 0,.string ⟨#[]⟩]
 obtain⟨w6,hwa,hx2⟩:∃ wa,wa=(w5.alloc (.cells #[.int .i64 0,.slice none 0 0,.slice none 0 0,.slice none 0 0,.int .i64 0,.slice none 0 0,.int .i64 0,.slice none 0 0,.int .i64 0,.int .i64 0,.string ⟨#[]⟩,.int .i64 0,.string ⟨#[]⟩] 37)).setCells w5.heap.size 0 N/\Ext w5 wa:=⟨_,rfl,Qaa (W:=w5) (Nat.le_refl _) N 0 _ (Ext.new (Below.refl _ _) _)⟩
 have T4:=hU (show World.there (w5.alloc (.cells #[.int .i64 0,.slice none 0 0,.slice none 0 0,.slice none 0 0,.int .i64 0,.slice none 0 0,.int .i64 0,.slice none 0 0,.int .i64 0,.int .i64 0,.string ⟨#[]⟩,.int .i64 0,.string ⟨#[]⟩] 37)) w5.heap.size 0 N.length by rw[hn.len];exact KZ.there 0 13 (by simp));have HW:=hU hwa
 have HWR:=hU (hw1.ext hx2);have HVC:=hU hvc1
 replace S1:=hU (S1.out.ext hx2);replace K5:=hU (K5.out.ext hx2);replace K10:=hU (K10.out.ext hx2);replace K11:=hU (K11.out.ext hx2);replace K13:=hU (K13.out.ext hx2);replace HE:=hU (HE.out.next hx2);replace E13:=hU (E13.out.next hx2)
 clear hn hw1 hvc1 h1 KZ hwa hx2 cw r13 f13 RO
 go_upto_region 5 with(refine Qac rfl 37 _ _ rfl rfl w5.heap.size 0 N rfl rfl T4.out (by rw[N13.out];kernel_rfl) N1.out ?_;rw[<-HW.out])
 obtain⟨g15,hg15⟩:∃ g15,g15=w5.heap.size:=⟨_,rfl⟩
 rw[<-hg15]
 clear T4 HW N13 N1 hg15
 go_upto_region 7 with fail
 have RT:=hU (fun W=>Qp4 (P:=Tryz.prog) (t:=46) V1 m0 vc1 n 3 Tryz.underlying46 (fun W=>by kernel_rfl) (by have:=HNM.out;have:=HVC.out;omega) W)
 have rt:=RT.out
 have hnv:(n:Int)<=(vc1:Int):=by have:=HNM.out;have:=HVC.out;omega
 have E3:=hU (show Ext w3 w6 from E13.out)
 refine wp_region_held_drew (S:=fun w'=>Ext w3 w') (by kernel_rfl) E3.out.drew (fun hH=>?_)
 have hx:=(Below.refl w6.heap.size w6).drew
 replace S1:=hU (S1.out.ext hx);replace K5:=hU (K5.out.ext hx);replace K10:=hU (K10.out.ext hx);replace K11:=hU (K11.out.ext hx);replace K13:=hU (K13.out.ext hx);replace HE:=hU (HE.out.next hx);replace HWR:=hU (HWR.out.ext hx)
 clear hx E13 E3
 generalize w6.drew=w7 at *
 refine tk 1 (.slice V1 m0 vc1) (some 45) hH ?_
 try simp only[zA]
 refine tk 2 (.int .i64 (ag:Int)) (some 46) hH ?_
 try simp only[zA]
 refine tk 3 (.slice V1 m0 vc1) (some 47) hH ?_
 try simp only[zA]
 refine tk 4 (.int .i64 (m0:Int)) (some 48) hH ?_
 try simp only[zA]
 refine tk 5 (.int .i64 (n:Int)) (some 49) hH ?_
 try simp only[zA]
 refine tk 6 (.int .i64 (n:Int)) (some 50) hH ?_
 try simp only[zA]
 refine tk 7 (.slice V1 n vc1) (some 51) hH ?_
 try simp only[zA]
 refine oneH 0 (oi:=_) (some 44) (by kernel_rfl) rfl rfl rfl (fun K' hK=>?_)
 refine⟨?_⟩;rw[if_pos (by rfl)]
 obtain⟨r13,f13⟩:=K13.out.rules
 go_simp
 refine hK.out _ _ ⟨_,rfl⟩ (hH) (fun hH2=>?_)
 clear hK K' r13 f13
 have hH:=hH2
 clear hH2
 try simp only[zB]
 refine oneH 8 (oi:=_) (some 52) (by kernel_rfl) rfl rfl rfl (fun K' hK=>?_)
 refine⟨?_⟩
 rw[if_pos (by rfl)]
 go_simp
 refine(PA.out q1 c1 V1 vc1 _ S1.out HWR.out).mono ?_
 rintro e w8 ⟨q2,c2,cur2,rfl,kq2,hcu2,hqq2,h1,hcb2⟩
 have S2:=hU (Qgq kq2 hcu2 HL2.out hcb2)
 have Q2:=hU hqq2;have L13:=hU K13.out.lt;have B2:=hU kq2;have U2:=hU hcu2;have C2:=hU hcb2
 replace K5:=hU (K5.out.ext h1);replace K10:=hU (K10.out.ext h1);replace K11:=hU (K11.out.ext h1);replace K13:=hU (K13.out.ext h1);replace HE:=hU (HE.out.next h1)
 clear kq2 hcu2 hqq2 hcb2
 refine hK.out _ _ ⟨_,rfl⟩ (hH.next h1) (fun hH2=>?_)
 clear hK K' hH h1
 have hH:=hH2
 clear hH2
 try simp only[zB]
 refine tk 9 (.tuple #[.agg #[.slice (some ⟨q2,0,none⟩) 3 c2],.int .i64 (n:Int)]) (some 43) hH ?_
 try simp only[zA]
 refine tk 10 (.agg #[.slice (some ⟨q2,0,none⟩) 3 c2]) (some 53) hH ?_
 try simp only[zA]
 refine tk 11 (.int .i64 (n:Int)) (some 54) hH ?_
 try simp only[zA]
 refine oneH 12 (oi:=_) none (by kernel_rfl) rfl rfl rfl (fun K' hK=>?_)
 refine⟨?_⟩;rw[if_pos (by rfl)]
 refine Qao 52 _ _ (by rfl) (by rfl) g13 0 [.slice (some ⟨q2,0,none⟩) 3 c2] (by rfl) (by rfl) (K13.out.there 0 1 (by simp)) (by kernel_rfl) (by rfl) ?_
 have Z13:=hU (K13.out.put 0 [.slice (some ⟨q2,0,none⟩) 3 c2] #[.slice (some ⟨q2,0,none⟩) 3 c2] (by simp) rfl)
 have ZB2:=hU (B2.out.farCells (g':=g13) (by have:=Q2.out;have:=L13.out;omega) [.slice (some ⟨q2,0,none⟩) 3 c2] 0)
 have Z5:=hU (K5.out.farCells (g':=g13) (by omega) [.slice (some ⟨q2,0,none⟩) 3 c2] 0)
 have Z10:=hU (K10.out.farCells (g':=g13) (by omega) [.slice (some ⟨q2,0,none⟩) 3 c2] 0)
 have Z11:=hU (K11.out.farCells (g':=g13) (by omega) [.slice (some ⟨q2,0,none⟩) 3 c2] 0)
 have ZE:=hU (Qaa (W:=w) (g:=g13) (by omega) [.slice (some ⟨q2,0,none⟩) 3 c2] 0 _ HE.out)
 have h1:Ext w3 (w8.setCells g13 0 [.slice (some ⟨q2,0,none⟩) 3 c2]):=Qaa (W:=w3) (g:=g13) G13.out [.slice (some ⟨q2,0,none⟩) 3 c2] 0 _ hH
 refine hK.out _ _ ⟨undef,rfl⟩ (h1) (fun hH2=>?_)
 clear hK K' hH
 have hH:=hH2
 clear hH2
 try simp only[zB]
 generalize w8.setCells g13 0 [.slice (some ⟨q2,0,none⟩) 3 c2]=w9 at *
 clear hH
 refine wpAnyH_done (by kernel_rfl) ?_ _
 have cw:=HCW.out g w9 Z5.out
 obtain⟨r13,f13⟩:=Z13.out.rules
 have S2:=hU (Qgq ZB2.out U2.out HL2.out C2.out)
 have RX:=hU (RO2.out q2 c2 w9 S2.out)
 have hs9:=ZE.out.size
 have L10:=hU Z10.out.lt
 clear K5 K10 K11 K13 HE B2 Q2 L13 S1 HWR PA RT rt hmin hmin2 hmax RO2 ZB2
 go_wp2_with fail
 refine RX.out.mono ?_
 rintro e w10 ⟨N2,V2,vc2,rfl,hn,hw2,hvc2,h1⟩
 have N13:=hU hn.len;have N1:=hU hn.one
 replace S2:=hU (S2.out.ext h1);replace Z10:=hU (Z10.out.ext h1);replace Z11:=hU (Z11.out.ext h1);replace Z13:=hU (Z13.out.ext h1);replace ZE:=hU (ZE.out.next h1)
 have KZ:=Blk.new w10 37 #[.int .i64 0,.slice none 0 0,.slice none 0 0,.slice none 0 0,.int .i64 0,.slice none 0 0,.int .i64 0,.slice none 0 0,.int .i64 0,.int .i64 0,.string ⟨#[]⟩,.int .i64 0,.string ⟨#[]⟩]
 obtain⟨w11,hwa,K18,hx2⟩:∃ wa,wa=(w10.alloc (.cells #[.int .i64 0,.slice none 0 0,.slice none 0 0,.slice none 0 0,.int .i64 0,.slice none 0 0,.int .i64 0,.slice none 0 0,.int .i64 0,.int .i64 0,.string ⟨#[]⟩,.int .i64 0,.string ⟨#[]⟩] 37)).setCells w10.heap.size 0 N2/\Blk wa w10.heap.size 37 N2.toArray/\Ext w10 wa:=⟨_,rfl,Qas KZ N2 (by rw[hn.len];rfl),Qaa (W:=w10) (Nat.le_refl _) N2 0 _ (Ext.new (Below.refl _ _) _)⟩
 have T4:=hU (show World.there (w10.alloc (.cells #[.int .i64 0,.slice none 0 0,.slice none 0 0,.slice none 0 0,.int .i64 0,.slice none 0 0,.int .i64 0,.slice none 0 0,.int .i64 0,.int .i64 0,.string ⟨#[]⟩,.int .i64 0,.string ⟨#[]⟩] 37)) w10.heap.size 0 N2.length by rw[hn.len];exact KZ.there 0 13 (by simp));have HW:=hU hwa
 have HN:=hU ((hn.low hs9).ext hx2);have HWR:=hU (hw2.ext hx2)
 have l10:=Nat.lt_of_lt_of_le L10.out h1.size
 have l13:=Z13.out.lt
 have l11:=Z11.out.lt
 replace S2:=hU (S2.out.ext hx2);replace Z10:=hU (Z10.out.ext hx2);replace Z11:=hU (Z11.out.ext hx2);replace Z13:=hU (Z13.out.ext hx2);replace ZE:=hU (ZE.out.next hx2)
 clear hn hw2 hvc2 h1 KZ hwa hx2 cw r13 f13 RX Z5
 go_upto_region 9 with(refine Qac rfl 37 _ _ rfl rfl w10.heap.size 0 N2 rfl rfl T4.out (by rw[N13.out];kernel_rfl) N1.out ?_;rw[<-HW.out])
 obtain⟨g18,hg18⟩:∃ g18,g18=w10.heap.size:=⟨_,rfl⟩
 rw[<-hg18] at K18 l10 l13 l11
 rw[<-hg18]
 have K18H:=hU K18
 clear T4 HW hg18 K18
 obtain⟨r13,f13⟩:=Z13.out.rules
 go_wp2_with fail
 refine(PA2.out q2 c2 V2 vc2 w11 S2.out HWR.out).mono ?_
 rintro e w12 ⟨q3,c3,cur3,rfl,kq3,hcu3,hqq3,h1,hcb3⟩
 have hs11:=ZE.out.size
 have l18:=K18H.out.lt
 replace HN:=hU (HN.out.ext h1);replace Z10:=hU (Z10.out.ext h1);replace Z11:=hU (Z11.out.ext h1);replace Z13:=hU (Z13.out.ext h1);replace ZE:=hU (ZE.out.next h1);replace K18H:=hU (K18H.out.ext h1)
 have U3:=hU hcu3;have C3:=hU hcb3
 have hq3:w.heap.size<=q3:=by omega
 clear h1 hcu3 hcb3 r13 f13 PA2 S2 HWR
 obtain⟨r13,f13⟩:=Z13.out.rules
 go_upto_region 12 with fail
 have X13:=hU (show Blk (w12.setCell ⟨g13,0,none⟩ (.slice (some ⟨q3,0,none⟩) 3 c3)) g13 52 #[.slice (some ⟨q3,0,none⟩) 3 c3] from Z13.out.set_ 0 _)
 have X18:=hU (K18H.out.far (p:=⟨g13,0,none⟩) (by show g18≠g13;omega) (.slice (some ⟨q3,0,none⟩) 3 c3))
 have X10:=hU (Z10.out.far (p:=⟨g13,0,none⟩) (by show g+1≠g13;omega) (.slice (some ⟨q3,0,none⟩) 3 c3))
 have X11:=hU (Z11.out.far (p:=⟨g13,0,none⟩) (by show g+1+1≠g13;omega) (.slice (some ⟨q3,0,none⟩) 3 c3))
 have XQ:=hU (kq3.far (p:=⟨g13,0,none⟩) (by show q3≠g13;omega) (.slice (some ⟨q3,0,none⟩) 3 c3))
 have XN:=hU (show BVal w.heap.size B N2 (w12.setCell ⟨g13,0,none⟩ (.slice (some ⟨q3,0,none⟩) 3 c3)) from Qk4 HN.out Z13.out [.slice (some ⟨q3,0,none⟩) 3 c3] 0)
 have XE:=hU (show Ext w (w12.setCell ⟨g13,0,none⟩ (.slice (some ⟨q3,0,none⟩) 3 c3)) from Below.setCell ZE.out (p:=⟨g13,0,none⟩) (by show w.heap.size<=g13;omega) (.slice (some ⟨q3,0,none⟩) 3 c3))
 clear r13 f13 Z13 K18H Z10 Z11 kq3 HN ZE
 generalize w12.setCell ⟨g13,0,none⟩ (.slice (some ⟨q3,0,none⟩) 3 c3)=w13 at *
 refine wp_region_held_drew (S:=fun w'=>(Blk w' g18 37 N2.toArray/\Blk w' g13 52 #[.slice (some ⟨q3,0,none⟩) 3 c3])/\Ext w w') (by kernel_rfl) ⟨⟨X18.out.drew,X13.out.drew⟩,XE.out.drew⟩ (fun hH=>?_)
 have hx:=(Below.refl w13.heap.size w13).drew
 replace X10:=hU (X10.out.ext hx);replace X11:=hU (X11.out.ext hx);replace XQ:=hU (XQ.out.ext hx);replace XN:=hU (XN.out.ext hx)
 clear hx X13 X18 XE
 generalize w13.drew=w14 at *
 refine Qah 0 (.agg N2.toArray) (some 73) rfl rfl (by kernel_rfl) (yieldsIf_load_mid (by rfl) 37 _ rfl g18 0 rfl N2 _ (fun w' h=>Blk.range h.1.1) Tryz.underlying37 rfl (by rw[N13.out];kernel_rfl)) hH ?rb0
 try simp only[zB]
 refine Qah 1 (.agg #[.slice (some ⟨q3,0,none⟩) 3 c3]) (some 74) rfl rfl (by kernel_rfl) (Or.inl ⟨by rfl,?yb1⟩) hH ?rb1
 case yb1=>intro w' hS';obtain⟨r13,f13⟩:=hS'.1.2.rules;go_simp;try with_reducible rfl
 try simp only[zA]
 refine oneH 2 (oi:=_) none (by kernel_rfl) rfl rfl rfl (fun K' hK=>?_)
 refine⟨?_⟩;rw[if_pos (by rfl)]
 refine Qao 37 _ _ (by rfl) (by rfl) (g+1) 0 N2 (by rfl) (by rfl) (by rw[N13.out];exact X10.out.there 0 13 (by simp)) (by rw[N13.out];kernel_rfl) N1.out ?_
 have Y10:=hU (Qas X10.out N2 (by rw[N13.out];rfl))
 have Y11:=hU (X11.out.farCells (g':=g+1) (by omega) N2 0)
 have YQ:=hU (XQ.out.farCells (g':=g+1) (by omega) N2 0)
 have YN:=hU (XN.out.putB X10.out N2 0)
 have h1:(Blk (w14.setCells (g+1) 0 N2) g18 37 N2.toArray/\Blk (w14.setCells (g+1) 0 N2) g13 52 #[.slice (some ⟨q3,0,none⟩) 3 c3])/\Ext w (w14.setCells (g+1) 0 N2):=⟨⟨hH.1.1.farCells (by omega) N2 0,hH.1.2.farCells (by omega) N2 0⟩,Qaa (W:=w) (g:=g+1) (by omega) N2 0 _ hH.2⟩
 refine hK.out _ _ ⟨undef,rfl⟩ (h1) (fun hH2=>?_)
 clear hK K' hH h1
 have hH:=hH2
 clear hH2
 try simp only[zB]
 generalize w14.setCells (g+1) 0 N2=w15 at *
 clear X10 X11 XQ XN
 refine oneH 3 (oi:=_) none (by kernel_rfl) rfl rfl rfl (fun K' hK=>?_)
 refine⟨?_⟩;rw[if_pos (by rfl)]
 refine Qao 52 _ _ (by rfl) (by rfl) (g+1+1) 0 [.slice (some ⟨q3,0,none⟩) 3 c3] (by rfl) (by rfl) (Y11.out.there 0 1 (by simp)) (by kernel_rfl) (by rfl) ?_
 have P11:=hU (Y11.out.put 0 [.slice (some ⟨q3,0,none⟩) 3 c3] #[.slice (some ⟨q3,0,none⟩) 3 c3] (by simp) rfl)
 have P10:=hU (Y10.out.farCells (g':=g+1+1) (by omega) [.slice (some ⟨q3,0,none⟩) 3 c3] 0)
 have PQ:=hU (YQ.out.farCells (g':=g+1+1) (by omega) [.slice (some ⟨q3,0,none⟩) 3 c3] 0)
 have PN:=hU (Qk4 YN.out Y11.out [.slice (some ⟨q3,0,none⟩) 3 c3] 0)
 have h1:(Blk (w15.setCells (g+1+1) 0 [.slice (some ⟨q3,0,none⟩) 3 c3]) g18 37 N2.toArray/\Blk (w15.setCells (g+1+1) 0 [.slice (some ⟨q3,0,none⟩) 3 c3]) g13 52 #[.slice (some ⟨q3,0,none⟩) 3 c3])/\Ext w (w15.setCells (g+1+1) 0 [.slice (some ⟨q3,0,none⟩) 3 c3]):=⟨⟨hH.1.1.farCells (by omega) [.slice (some ⟨q3,0,none⟩) 3 c3] 0,hH.1.2.farCells (by omega) [.slice (some ⟨q3,0,none⟩) 3 c3] 0⟩,Qaa (W:=w) (g:=g+1+1) (by omega) [.slice (some ⟨q3,0,none⟩) 3 c3] 0 _ hH.2⟩
 refine hK.out _ _ ⟨undef,rfl⟩ (h1) (fun hH2=>?_)
 clear hK K' hH h1
 have hH:=hH2
 clear hH2
 try simp only[zB]
 generalize w15.setCells (g+1+1) 0 [.slice (some ⟨q3,0,none⟩) 3 c3]=w16 at *
 refine Qah 4 (.int .i64 0) (some 12) rfl rfl (by kernel_rfl) (Or.inl ⟨by rfl,?yb2⟩) hH ?rb2
 case yb2=>intro w' hS';obtain⟨r13,f13⟩:=hS'.1.2.rules;go_simp;try with_reducible rfl
 try simp only[zA]
 have PE:=hU hH.2
 clear hH Y10 Y11 YQ YN
 refine wpAnyH_done (by kernel_rfl) ?_ _
 go_wp2_with fail
 exact Qw7 rfl rfl P10.out Tryz.underlying37 rfl (by rw[List.size_toArray,N13.out];kernel_rfl) rfl P11.out Tryz.underlying52 rfl (by kernel_rfl) rfl ⟨N2,q3,c3,cur3,(by first|rfl|kernel_rfl|(simp;done)),PN.out,PQ.out,U3.out,hq3,PE.out,C3.out⟩
theorem Qle(b B:Qad)(T0:List ByteArray)(W0:List Qbs)(M:List Value)(V:Option Addr)(vc:Nat)(wh pt:Int)(ag:Nat)(w:World)(hB:Qar b=true)(hM:Mend B T0 W0)(hwd:B.width=b.width)(hm:BRdL AnyB b M w)(h13:M.length=13)(hag:ag<=100)
 (CA:∀(q c:Nat) (W:World),Ext w W->SlF AnyB sone 1 W (some ⟨q,0,none⟩) (Qcl b) c->Calls Tryz.prog 103 #[.agg #[.slice (some ⟨q,0,none⟩) 3 c],.slice V 1 vc,.int .i64 wh,.int .i64 pt] W fun e w'=>Qtu T0 (.bool true) W e w') :
 Calls Tryz.prog 11 #[.agg M.toArray,.slice V 1 vc,.int .i64 wh,.int .i64 pt,.int .i64 (ag:Int)] w fun e w'=>Qyn B w e w':=by
 have HM13:=hU h13
 have AC:=hU (fun(W:World) (h:Ext w W)=>Qqy b B T0 W0 M V vc wh pt ag W hB hM hwd (hm.ext h) h13 hag (fun q c W' h' s=>CA q c W' (h.next h') s))
 have tx:=Qfb hB
 obtain⟨X0,x0,X1,x1,X2,x2,X3,x3,X4,x4,hMe,s⟩:=hm
 have BOK:=hU (fun(W:World) (hW:Ext w W)=>Qda b X0 x0 X1 x1 X2 x2 X3 x3 X4 x4 W (s.ext hW).e (s.ext hW).r (s.ext hW).h (s.ext hW).u (s.ext hW).v tx.e tx.r tx.n.u tx.n.v)
 rw[<-hMe] at BOK
 rw[hB] at BOK
 clear hMe s tx CA hwd h13 hB hM hag
 obtain⟨w1,hw1⟩:∃ w1,w1=((w.alloc (.cells M.toArray 37)).alloc (.cells #[.int .i64 0,.slice none 0 0,.slice none 0 0,.slice none 0 0,.int .i64 0,.slice none 0 0,.int .i64 0,.slice none 0 0,.int .i64 0,.int .i64 0,.string ⟨#[]⟩,.int .i64 0,.string ⟨#[]⟩] 37)).alloc (.cells #[.slice none 0 0] 52):=⟨_,rfl⟩
 have B5:Blk w1 w.heap.size 37 M.toArray:=by rw[hw1];exact((Blk.new w _ _).alloc _).alloc _
 have B10:Blk w1 (w.heap.size+1) 37 #[.int .i64 0,.slice none 0 0,.slice none 0 0,.slice none 0 0,.int .i64 0,.slice none 0 0,.int .i64 0,.slice none 0 0,.int .i64 0,.int .i64 0,.string ⟨#[]⟩,.int .i64 0,.string ⟨#[]⟩]:=by
  rw[hw1]
  have:=Blk.new (w.alloc (.cells M.toArray 37)) 37 #[.int .i64 0,.slice none 0 0,.slice none 0 0,.slice none 0 0,.int .i64 0,.slice none 0 0,.int .i64 0,.slice none 0 0,.int .i64 0,.int .i64 0,.string ⟨#[]⟩,.int .i64 0,.string ⟨#[]⟩]
  rw[World.size_alloc] at this
  exact this.alloc _
 have B11:Blk w1 (w.heap.size+1+1) 52 #[.slice none 0 0]:=by
  rw[hw1]
  have:=Blk.new ((w.alloc (.cells M.toArray 37)).alloc (.cells #[.int .i64 0,.slice none 0 0,.slice none 0 0,.slice none 0 0,.int .i64 0,.slice none 0 0,.int .i64 0,.slice none 0 0,.int .i64 0,.int .i64 0,.string ⟨#[]⟩,.int .i64 0,.string ⟨#[]⟩] 37)) 52 #[.slice none 0 0]
  rw[World.size_alloc,World.size_alloc] at this
  exact this
 have he:Ext w w1:=by rw[hw1];exact Ext.new (Ext.new (Ext.new (Below.refl w.heap.size w) _) _) _
 go_enter Tryz.func11,Tryz.ntmps11
 go_upto_region 1 with fail
 rw[<-hw1]
 obtain⟨g,hg⟩:∃ g,g=w.heap.size:=⟨_,rfl⟩
 rw[<-hg] at B5 B10 B11
 rw[<-hg]
 have hgw:w.heap.size<=g:=by omega
 clear hw1 hg
 have RX:=hU (Blk.range B5)
 go_wp2_with (refine wpList_load_mid rfl 37 _ rfl g 0 rfl M _ RX.out Tryz.underlying37 rfl (by rw[HM13.out];kernel_rfl) ?_)
 refine(BOK.out _ he).mono ?_
 rintro e w2 ⟨rfl,h1⟩
 have RY:=hU (Blk.range (B5.ext h1))
 have K10:=hU (B10.ext h1);have K11:=hU (B11.ext h1);have HE:=hU (he.next h1)
 have A3:=hU (AC.out w2 (he.next h1))
 have hs2:=HE.out.size
 clear h1 RX BOK AC B5 B10 B11 he
 go_wp2_with (refine wpList_load_mid rfl 37 _ rfl g 0 rfl M _ RY.out Tryz.underlying37 rfl (by rw[HM13.out];kernel_rfl) ?_)
 refine A3.out.mono ?_
 rintro e w3 ⟨N,q3,c3,cur3,rfl,hn,kq,hcu,hq3,h1,hcb⟩
 have l11:=K11.out.lt
 replace K10:=hU (K10.out.ext h1);replace K11:=hU (K11.out.ext h1);replace HE:=hU (HE.out.next h1)
 have N13:=hU hn.len;have N1:=hU hn.one;have U3:=hU hcu;have C3:=hU hcb
 have hq4:w.heap.size<=q3:=by omega
 obtain⟨w4,hw4,z10,z11,zq,zn,ze⟩:∃ w4,w4=w3.setCells (g+1) 0 N/\Blk w4 (g+1) 37 N.toArray/\Blk w4 (g+1+1) 52 #[.slice none 0 0]/\Blk w4 q3 9 cur3/\BVal w.heap.size B N w4/\Ext w w4:=⟨_,rfl,Qas K10.out N (by rw[hn.len];rfl),K11.out.farCells (by omega) N 0,kq.farCells (by omega) N 0,(hn.low hs2).putB K10.out N 0,Qaa (W:=w) (g:=g+1) (by omega) N 0 _ HE.out⟩
 have T10:=hU (show w3.there (g+1) 0 N.length by rw[hn.len];exact K10.out.there 0 13 (by simp));have HW4:=hU hw4
 have P11:=hU (z11.put 0 [.slice (some ⟨q3,0,none⟩) 3 c3] #[.slice (some ⟨q3,0,none⟩) 3 c3] (by simp) rfl)
 have P10:=hU (z10.farCells (g':=g+1+1) (by omega) [.slice (some ⟨q3,0,none⟩) 3 c3] 0)
 have PQ:=hU (zq.farCells (g':=g+1+1) (by omega) [.slice (some ⟨q3,0,none⟩) 3 c3] 0)
 have PN:=hU (Qk4 zn z11 [.slice (some ⟨q3,0,none⟩) 3 c3] 0)
 have PE:=hU (Qaa (W:=w) (g:=g+1+1) (by omega) [.slice (some ⟨q3,0,none⟩) 3 c3] 0 _ ze)
 obtain⟨r11,f11⟩:=z11.rules
 clear hn kq hcu h1 hcb hw4 z10 z11 zq zn ze K10 K11 HE A3 RY
 go_wp2_with (refine Qac rfl 37 _ _ rfl rfl (g+1) 0 N rfl rfl T10.out (by rw[N13.out];kernel_rfl) N1.out ?_;rw[<-HW4.out])
 exact Qw7 rfl rfl P10.out Tryz.underlying37 rfl (by rw[List.size_toArray,N13.out];kernel_rfl) rfl P11.out Tryz.underlying52 rfl (by kernel_rfl) rfl ⟨N,q3,c3,cur3,rfl,PN.out,PQ.out,U3.out,hq4,PE.out,C3.out⟩
theorem Qvu{b b':Qad}{f:Nat}{t:ByteArray}(d:Deed b b' f t)(M:List Value)(V:Option Addr)(vc wh part ag:Nat)(w:World)(hm:BRdL AnyB b M w)(h13:M.length=13)(hvc:1<=vc)(hw:Qav w w.heap.size Qbs.cells 3 V [⟨(f:Int),((wasT b f).size:Int),Qax t⟩])(hwh:wh<=1)(hp:part<=(Qax t).size)(h1:wh=1->part=0)(hag:ag<=100) :
 ∃ B:Qad,B.width=b.width/\Qar B=true/\B=(if wh=1\/part=(Qax t).size then b' else b)/\Calls Tryz.prog 11 #[.agg M.toArray,.slice V 1 vc,.int .i64 (wh:Int),.int .i64 (part:Int),.int .i64 (ag:Int)] w fun e w'=>Qyn B w e w':=by
 have o:=d.out
 have hs:=Qpy d.was f
 have ht:(Qax t).size<=2000:=by rw[o.2.1];omega
 by_cases hw1:wh=1
 · subst hw1
   obtain rfl:=h1 rfl
   refine⟨b',d.wd,d.ok,by rw[if_pos (Or.inl rfl)],?_⟩
   exact Qle b b' _ [] M V vc 1 0 ag w d.was (mend_all d) d.wd hm h13 hag (fun q c W h s=>Qtw q c f (Qcl b) (wasT b f) (Qax t) V vc W rfl (Qqt d.was) s (hw.ext h) d.lt d.at_ (by omega) ht hvc)
 · obtain rfl:wh=0:=by omega
   obtain⟨B,W0,hM,hB,hE⟩:=mend_cut d hp
   refine⟨B,hB,hM.ok,?_,?_⟩
   · rw[hE]
     by_cases h:part=(Qax t).size
     · rw[if_pos h,if_pos (Or.inr h)]
     · rw[if_neg h,if_neg (fun e=>Or.elim e (fun h2=>by cases h2) h)]
   · exact Qle b B _ W0 M V vc 0 part ag w d.was hM hB hm h13 hag (fun q c W h s=>Qv3 q c f part (Qcl b) (wasT b f) (Qax t) V vc W rfl (Qqt d.was) s (hw.ext h) d.lt d.at_ (by omega) ht hvc hp)
end Go.Proofs.YtbnkjgcpjeedfaaGreat

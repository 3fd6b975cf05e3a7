/-
  SameW; HeadBk; CutP; CutQ: No condition.
-/
import Derived.Test.YtbnkjgcpjeedfaaGreatRecs
import Derived.Test.YtbnkjgcpjeedfaaGreatDisk0
import Derived.Test.YtbnkjgcpjeedfaaGreatRightP
import Derived.Test.YtbnkjgcpjeedfaaGreatNodeW
namespace Go.Proofs.YtbnkjgcpjeedfaaGreat
set_option maxHeartbeats 8000000
set_option maxRecDepth 100000
set_option linter.unusedSimpArgs false
open Go.RowKit
set_option linter.unusedVariables false
theorem blk_w0{w:World}{g t:Nat}{cs:Array Value}(h:Blk w g t cs):∃ w6,w6=w:=⟨w,rfl⟩
theorem cells5{l:List Qak}{w:World}{b off:Nat}{k:Nat}{d:Qak}(hc:∀ j u,(l.flatMap Qak.cells)[k*5+j]?=some u->w.cell? ⟨b,off+k*5+j,none⟩=some u)(hd:l[k]?=some d) :
 w.cell? ⟨b,off+k*5,none⟩=some (.int .i64 d.number)/\w.cell? ⟨b,off+k*5+1,none⟩=some (.int .i64 d.size)/\w.cell? ⟨b,off+k*5+2,none⟩=some (.string d.root)/\w.cell? ⟨b,off+k*5+3,none⟩=some (.int .i64 d.taken)/\w.cell? ⟨b,off+k*5+4,none⟩=some (.string d.takenRoot):=
 ⟨hc 0 _ (Qa9 _ 5 Qak.cells_length l k 0 d hd (by omega)),hc 1 _ (Qa9 _ 5 Qak.cells_length l k 1 d hd (by omega)),hc 2 _ (Qa9 _ 5 Qak.cells_length l k 2 d hd (by omega)),hc 3 _ (Qa9 _ 5 Qak.cells_length l k 3 d hd (by omega)),hc 4 _ (Qa9 _ 5 Qak.cells_length l k 4 d hd (by omega))⟩
theorem cells3{l:List Qab}{w:World}{b off:Nat}{k:Nat}{d:Qab}(hc:∀ j u,(l.flatMap Qab.cells)[k*3+j]?=some u->w.cell? ⟨b,off+k*3+j,none⟩=some u)(hd:l[k]?=some d) :
 w.cell? ⟨b,off+k*3,none⟩=some (.string d.reader)/\w.cell? ⟨b,off+k*3+1,none⟩=some (.string d.topic)/\w.cell? ⟨b,off+k*3+2,none⟩=some (.int .i64 d.index):=
 ⟨hc 0 _ (Qa9 _ 3 Qab.cells_length l k 0 d hd (by omega)),hc 1 _ (Qa9 _ 3 Qab.cells_length l k 1 d hd (by omega)),hc 2 _ (Qa9 _ 3 Qab.cells_length l k 2 d hd (by omega))⟩
theorem Qjb(A A':Option Addr)(c c':Nat)(l:List ByteArray)(w:World)(hr:SlF AnyB sone 1 w A l c)(hr':SlF AnyB sone 1 w A' l c')(hl:l.length<=1048576) :
 Calls Tryz.prog 48 #[.slice A l.length c,.slice A' l.length c'] w fun e w'=>e=.returned (.bool true)/\Ext w w':=by
 have H1:=hU hr;have H2:=hU hr'
 clear hr hr'
 go_enter Tryz.func48,Tryz.ntmps48
 go_wp2_with fail
 go_loopw [5] (fun i wr=>∃(k:Nat),k<=l.length/\i=.int .i64 k/\Ext w wr) (fun i _=>l.length-(intOf i).toNat)
 case atStart=>exact⟨0,Nat.zero_le _,rfl,Below.refl _ _⟩
 case round=>
  obtain⟨k,hk,rfl,he⟩:=hrel
  by_cases hlt:k<l.length
  case neg=>
   go_wp2_with fail
   go_ret
   exact⟨rfl,he⟩
  obtain⟨b,off,rfl,hb,hc⟩:=Qbb.at_ (H1.out.ext he).reads (k:=k) hlt
  obtain⟨b',off',rfl,hb',hc'⟩:=Qbb.at_ (H2.out.ext he).reads (k:=k) hlt
  obtain⟨d,hd⟩:∃ d,d=l[k]:=⟨_,rfl⟩
  have hdl:l[k]?=some d:=by rw[hd];exact List.getElem?_eq_getElem hlt
  have c0:=hc 0 _ (Qa9 _ 1 Qbw l k 0 d hdl (by omega))
  have b0:=hc' 0 _ (Qa9 _ 1 Qbw l k 0 d hdl (by omega))
  rw[Nat.add_zero,Nat.mul_one] at c0 b0
  clear hc hc' hd hdl
  have ES:(d.toList==d.toList)=true:=by simp
  have HE:=hU he
  clear he
  go_wp2_with fail
  go_quiet (fail)
  go_wp2_with fail
  go_roundw
  case rel=>exact⟨k+1,by omega,by go_num,⟨HE.out.os,HE.out.tape,HE.out.output,HE.out.size,HE.out.block⟩⟩
  case measure=>simp[intOf];omega
theorem Qmc(A A':Option Addr)(c c':Nat)(l:List Qaf)(w:World)(hr:SlF AnyB Qaf.cells 5 w A l c)(hr':SlF AnyB Qaf.cells 5 w A' l c')(hl:l.length<=1048576) :
 Calls Tryz.prog 49 #[.slice A l.length c,.slice A' l.length c'] w fun e w'=>e=.returned (.bool true)/\Ext w w':=by
 have H1:=hU hr;have H2:=hU hr'
 clear hr hr'
 go_enter Tryz.func49,Tryz.ntmps49
 go_wp2_with fail
 go_loopw [5] (fun i wr=>∃(k:Nat),k<=l.length/\i=.int .i64 k/\Ext w wr) (fun i _=>l.length-(intOf i).toNat)
 case atStart=>exact⟨0,Nat.zero_le _,rfl,Below.refl _ _⟩
 case round=>
  obtain⟨k,hk,rfl,he⟩:=hrel
  by_cases hlt:k<l.length
  case neg=>
   go_wp2_with fail
   go_ret
   exact⟨rfl,he⟩
  obtain⟨b,off,rfl,hb,hc⟩:=Qbb.at_ (H1.out.ext he).reads (k:=k) hlt
  obtain⟨b',off',rfl,hb',hc'⟩:=Qbb.at_ (H2.out.ext he).reads (k:=k) hlt
  obtain⟨d,hd⟩:∃ d,d=l[k]:=⟨_,rfl⟩
  have hdl:l[k]?=some d:=by rw[hd];exact List.getElem?_eq_getElem hlt
  obtain⟨c0,c1,c2,c3,c4⟩:=Qdt hc hdl
  obtain⟨b0,b1,b2,b3,b4⟩:=Qdt hc' hdl
  clear hc hc' hd hdl
  have ES:d.eqb d=true:=Qaf.eqb_self d
  have HE:=hU he
  clear he
  go_wp2_with fail
  go_quiet (fail)
  go_wp2_with fail
  go_roundw
  case rel=>exact⟨k+1,by omega,by go_num,⟨HE.out.os,HE.out.tape,HE.out.output,HE.out.size,HE.out.block⟩⟩
  case measure=>simp[intOf];omega
theorem Qjc(n:Int)(A A':Option Addr)(c c':Nat)(l:List ByteArray)(w:World)(hr:SlF AnyB sone 1 w A l c)(hr':SlF AnyB sone 1 w A' l c')(hl:l.length<=1048576) :
 Calls Tryz.prog 50 #[.agg #[.int .i64 n,.slice A l.length c],.agg #[.int .i64 n,.slice A' l.length c']] w fun e w'=>e=.returned (.bool true)/\Ext w w':=by
 obtain⟨B0,B1,he⟩:=Qfc w #[.int .i64 n,.slice A l.length c] #[.int .i64 n,.slice A' l.length c'] 31 31
 have CL:=hU (Qjb A A' c c' l _ (hr.ext he) (hr'.ext he) hl)
 obtain⟨r0,m0⟩:=B0.rules
 obtain⟨r1,m1⟩:=B1.rules
 have HE:=hU he
 have ES:(n==n)=true:=by simp
 clear B0 B1 he hr hr'
 go_enter Tryz.func50,Tryz.ntmps50
 go_wp2_with fail
 refine CL.out.mono ?_
 rintro e w2 ⟨rfl,h1⟩
 go_wp2_with fail
 go_ret
 exact⟨rfl,HE.out.next h1⟩
theorem Qga{p q:Nat->Prop}(b:Qad)(M N:List Value)(w:World)(hm:BRdL p b M w)(hn:BRdL q b N w)(hz:BSz b) :
 Calls Tryz.prog 15 #[.agg M.toArray,.agg N.toArray] w fun e w'=>e=.returned (.bool true)/\Ext w w':=by
 obtain⟨X0,x0,X1,x1,X2,x2,X3,x3,X4,x4,hM,sx⟩:=hm
 obtain⟨Y0,y0,Y1,y1,Y2,y2,Y3,y3,Y4,y4,hN,sy⟩:=hn
 have SX:=hU sx.any;have SY:=hU sy.any;have HZ:=hU hz
 obtain⟨E0,hE0⟩:∃ L,L=b.log.entries:=⟨_,rfl⟩
 obtain⟨R0,hR0⟩:∃ L,L=b.receipts:=⟨_,rfl⟩
 obtain⟨H0,hH0⟩:∃ L,L=b.heads:=⟨_,rfl⟩
 obtain⟨P0,hP0⟩:∃ L,L=b.sealed.leaves.peaks:=⟨_,rfl⟩
 obtain⟨P1,hP1⟩:∃ L,L=b.sealed.taken.peaks:=⟨_,rfl⟩
 obtain⟨d,hd⟩:∃ d,d=b.sealed.head:=⟨_,rfl⟩
 obtain⟨s0,hs0⟩:∃ d,d=b.sealed.leaves.size:=⟨_,rfl⟩
 obtain⟨s1,hs1⟩:∃ d,d=b.sealed.taken.size:=⟨_,rfl⟩
 obtain⟨wd,hwd⟩:∃ d,d=b.width:=⟨_,rfl⟩
 have BM:∀(W:World) (g:Nat),Blk W g 37 M.toArray->W.cell? ⟨g,0,none⟩=some (.int .i64 wd)/\W.cell? ⟨g,1,none⟩=some (.slice X0 E0.length x0)/\W.cell? ⟨g,2,none⟩=some (.slice X1 R0.length x1)/\W.cell? ⟨g,3,none⟩=some (.slice X2 H0.length x2)/\W.cell? ⟨g,4,none⟩=some (.int .i64 s0)/\W.cell? ⟨g,5,none⟩=some (.slice X3 P0.length x3)/\W.cell? ⟨g,6,none⟩=some (.int .i64 s1)/\W.cell? ⟨g,7,none⟩=some (.slice X4 P1.length x4)/\W.cell? ⟨g,8,none⟩=some (.int .i64 d.number)/\W.cell? ⟨g,9,none⟩=some (.int .i64 d.size)/\W.cell? ⟨g,10,none⟩=some (.string d.root)/\W.cell? ⟨g,11,none⟩=some (.int .i64 d.taken)/\W.cell? ⟨g,12,none⟩=some (.string d.takenRoot):=fun W g h=>by
  rw[hM] at h
  rw[hE0,hR0,hH0,hP0,hP1,hd,hs0,hs1,hwd]
  exact⟨h.cell 0,h.cell 1,h.cell 2,h.cell 3,h.cell 4,h.cell 5,h.cell 6,h.cell 7,h.cell 8,h.cell 9,h.cell 10,h.cell 11,h.cell 12⟩
 have BN:∀(W:World) (g:Nat),Blk W g 37 N.toArray->W.cell? ⟨g,0,none⟩=some (.int .i64 wd)/\W.cell? ⟨g,1,none⟩=some (.slice Y0 E0.length y0)/\W.cell? ⟨g,2,none⟩=some (.slice Y1 R0.length y1)/\W.cell? ⟨g,3,none⟩=some (.slice Y2 H0.length y2)/\W.cell? ⟨g,4,none⟩=some (.int .i64 s0)/\W.cell? ⟨g,5,none⟩=some (.slice Y3 P0.length y3)/\W.cell? ⟨g,6,none⟩=some (.int .i64 s1)/\W.cell? ⟨g,7,none⟩=some (.slice Y4 P1.length y4)/\W.cell? ⟨g,8,none⟩=some (.int .i64 d.number)/\W.cell? ⟨g,9,none⟩=some (.int .i64 d.size)/\W.cell? ⟨g,10,none⟩=some (.string d.root)/\W.cell? ⟨g,11,none⟩=some (.int .i64 d.taken)/\W.cell? ⟨g,12,none⟩=some (.string d.takenRoot):=fun W g h=>by
  rw[hN] at h
  rw[hE0,hR0,hH0,hP0,hP1,hd,hs0,hs1,hwd]
  exact⟨h.cell 0,h.cell 1,h.cell 2,h.cell 3,h.cell 4,h.cell 5,h.cell 6,h.cell 7,h.cell 8,h.cell 9,h.cell 10,h.cell 11,h.cell 12⟩
 have BM:=hU BM;have BN:=hU BN
 have SE:=hU (fun(W:World) (h:Ext w W)=>Qmc X0 Y0 x0 y0 b.log.entries W (SX.out.ext h).e (SY.out.ext h).e HZ.out.e)
 have SR0:=hU (fun(W:World) (h:Ext w W)=>Qjc s0 X3 Y3 x3 y3 b.sealed.leaves.peaks W (SX.out.ext h).u (SY.out.ext h).u HZ.out.u)
 have SR1:=hU (fun(W:World) (h:Ext w W)=>Qjc s1 X4 Y4 x4 y4 b.sealed.taken.peaks W (SX.out.ext h).v (SY.out.ext h).v HZ.out.v)
 have lr:=HZ.out.r;have lh:=HZ.out.h
 rw[<-hR0] at lr
 rw[<-hH0] at lh
 have XR:=hU (show SlF AnyB Qab.cells 3 w X1 R0 x1 by rw[hR0];exact SX.out.r);have YR:=hU (show SlF AnyB Qab.cells 3 w Y1 R0 y1 by rw[hR0];exact SY.out.r)
 have XH:=hU (show SlF AnyB Qak.cells 5 w X2 H0 x2 by rw[hH0];exact SX.out.h);have YH:=hU (show SlF AnyB Qak.cells 5 w Y2 H0 y2 by rw[hH0];exact SY.out.h)
 rw[<-hE0] at SE
 rw[<-hP0] at SR0
 rw[<-hP1] at SR1
 clear hM hN sx sy hz hE0 hR0 hH0 hP0 hP1 hd hs0 hs1 hwd SX SY HZ
 obtain⟨K1,K2,he⟩:=Qfc w M.toArray N.toArray 37 37
 obtain⟨g1,hg1⟩:∃ g1,g1=w.heap.size:=⟨_,rfl⟩
 obtain⟨g2,hg2⟩:∃ g2,g2=w.heap.size+1:=⟨_,rfl⟩
 go_enter Tryz.func15,Tryz.ntmps15
 go_upto_region 1 with fail
 obtain⟨w3,hw3⟩:∃ w3,w3=(w.alloc (.cells M.toArray 37)).alloc (.cells N.toArray 37):=⟨_,rfl⟩
 rw[<-hw3] at K1 K2 he
 rw[<-hw3]
 rw[<-hg2] at K2
 rw[<-hg1] at K1
 rw[<-hg2,<-hg1]
 clear hw3 hg1 hg2
 obtain⟨m0,m1,m2,m3,m4,m5,m6,m7,m8,m9,m10,m11,m12⟩:=BM.out _ _ K1
 obtain⟨n0,n1,n2,n3,n4,n5,n6,n7,n8,n9,n10,n11,n12⟩:=BN.out _ _ K2
 go_wp2_with fail
 refine(SE.out _ he).mono ?_
 rintro e w4 ⟨rfl,h1⟩
 have KM:=hU (K1.ext h1);have KN:=hU (K2.ext h1);have HE:=hU (he.next h1)
 clear h1 K1 K2 he m0 m1 m2 m3 m4 m5 m6 m7 m8 m9 m10 m11 m12 n0 n1 n2 n3 n4 n5 n6 n7 n8 n9 n10 n11 n12 SE
 obtain⟨m0,m1,m2,m3,m4,m5,m6,m7,m8,m9,m10,m11,m12⟩:=BM.out _ _ KM.out
 obtain⟨n0,n1,n2,n3,n4,n5,n6,n7,n8,n9,n10,n11,n12⟩:=BN.out _ _ KN.out
 go_upto_region 4 with fail
 clear m0 m1 m2 m3 m4 m5 m6 m7 m8 m9 m10 m11 m12 n0 n1 n2 n3 n4 n5 n6 n7 n8 n9 n10 n11 n12
 have HE0:=hU HE.out
 go_loopw [5] (fun i wr=>∃(k:Nat),k<=R0.length/\i=.int .i64 k/\Ext w4 wr) (fun i _=>R0.length-(intOf i).toNat)
 case atStart=>exact⟨0,Nat.zero_le _,rfl,Below.refl _ _⟩
 case round=>
  obtain⟨k,hk,rfl,he⟩:=hrel
  obtain⟨m0,m1,m2,m3,m4,m5,m6,m7,m8,m9,m10,m11,m12⟩:=BM.out _ _ (KM.out.ext he)
  obtain⟨n0,n1,n2,n3,n4,n5,n6,n7,n8,n9,n10,n11,n12⟩:=BN.out _ _ (KN.out.ext he)
  by_cases hlt:k<R0.length
  case pos=>
   obtain⟨b,off,rfl,hb,hc⟩:=Qbb.at_ (XR.out.ext (HE.out.next he)).reads (k:=k) hlt
   obtain⟨b',off',rfl,hb',hc'⟩:=Qbb.at_ (YR.out.ext (HE.out.next he)).reads (k:=k) hlt
   obtain⟨z,hz⟩:∃ z,z=R0[k]:=⟨_,rfl⟩
   have hzl:R0[k]?=some z:=by rw[hz];exact List.getElem?_eq_getElem hlt
   obtain⟨a0,a1,a2⟩:=cells3 hc hzl
   obtain⟨b0,b1,b2⟩:=cells3 hc' hzl
   have ES:z.eqb z=true:=Qab.eqb_self z
   have HEE:=hU he
   clear hc hc' hz hzl he
   go_wp2_with fail
   go_quiet (fail)
   go_wp2_with fail
   go_roundw
   case rel=>exact⟨k+1,by omega,by go_num,⟨HEE.out.os,HEE.out.tape,HEE.out.output,HEE.out.size,HEE.out.block⟩⟩
   case measure=>simp[intOf];omega
  go_upto_region 9 with fail
  replace KM:=hU (KM.out.ext he);replace KN:=hU (KN.out.ext he);replace HE:=hU (HE.out.next he)
  clear he hk hlt
  obtain⟨wr0,hwr0⟩:=blk_w0 KM.out
  subst hwr0
  clear m0 m1 m2 m3 m4 m5 m6 m7 m8 m9 m10 m11 m12 n0 n1 n2 n3 n4 n5 n6 n7 n8 n9 n10 n11 n12
  have HE0:=hU HE.out
  go_loopw [6] (fun i wr=>∃(k:Nat),k<=H0.length/\i=.int .i64 k/\Ext wr0 wr) (fun i _=>H0.length-(intOf i).toNat)
  case atStart=>exact⟨0,Nat.zero_le _,rfl,Below.refl _ _⟩
  case round=>
   obtain⟨k,hk,rfl,he⟩:=hrel
   obtain⟨m0,m1,m2,m3,m4,m5,m6,m7,m8,m9,m10,m11,m12⟩:=BM.out _ _ (KM.out.ext he)
   obtain⟨n0,n1,n2,n3,n4,n5,n6,n7,n8,n9,n10,n11,n12⟩:=BN.out _ _ (KN.out.ext he)
   by_cases hlt:k<H0.length
   case pos=>
    obtain⟨b,off,rfl,hb,hc⟩:=Qbb.at_ (XH.out.ext (HE.out.next he)).reads (k:=k) hlt
    obtain⟨b',off',rfl,hb',hc'⟩:=Qbb.at_ (YH.out.ext (HE.out.next he)).reads (k:=k) hlt
    obtain⟨z,hz⟩:∃ z,z=H0[k]:=⟨_,rfl⟩
    have hzl:H0[k]?=some z:=by rw[hz];exact List.getElem?_eq_getElem hlt
    obtain⟨a0,a1,a2,a3,a4⟩:=cells5 hc hzl
    obtain⟨b0,b1,b2,b3,b4⟩:=cells5 hc' hzl
    have ES:z.eqb z=true:=Qak.eqb_self z
    have HEE:=hU he
    clear hc hc' hz hzl he
    go_wp2_with fail
    go_quiet (fail)
    go_wp2_with fail
    go_roundw
    case rel=>exact⟨k+1,by omega,by go_num,⟨HEE.out.os,HEE.out.tape,HEE.out.output,HEE.out.size,HEE.out.block⟩⟩
    case measure=>simp[intOf];omega
   have KE:=hU (HE.out.next he)
   replace KM:=hU (KM.out.ext he);replace KN:=hU (KN.out.ext he)
   have ES:d.eqb d=true:=Qak.eqb_self d
   clear he
   go_wp2_with fail
   refine(SR0.out _ KE.out).mono ?_
   rintro e w6 ⟨rfl,h1⟩
   replace KM:=hU (KM.out.ext h1);replace KN:=hU (KN.out.ext h1);replace KE:=hU (KE.out.next h1)
   clear h1 m0 m1 m2 m3 m4 m5 m6 m7 m8 m9 m10 m11 m12 n0 n1 n2 n3 n4 n5 n6 n7 n8 n9 n10 n11 n12
   obtain⟨m0,m1,m2,m3,m4,m5,m6,m7,m8,m9,m10,m11,m12⟩:=BM.out _ _ KM.out
   obtain⟨n0,n1,n2,n3,n4,n5,n6,n7,n8,n9,n10,n11,n12⟩:=BN.out _ _ KN.out
   go_wp2_with fail
   refine(SR1.out _ KE.out).mono ?_
   rintro e w7 ⟨rfl,h1⟩
   go_wp2_with fail
   go_ret
   exact⟨rfl,KE.out.next h1⟩
theorem Qrz{n:Int}{d:Qak}(h:Qbc n d=true):Qer n (Qa4 n d)=true/\hrD n (Qa4 n d)=d:=by
 obtain⟨k,s,r,t,q⟩:=d
 have hk:=h
 obtain⟨n0,n1,k0,k1,s0,s1,r0,t0,t1,q0⟩:=Qfz h
 obtain⟨k,rfl⟩:=Qpi k0
 obtain⟨s,rfl⟩:=Qpi s0
 obtain⟨t,rfl⟩:=Qpi t0
 (try simp only at k1 s1 t1 r0 q0)
 have hw:inR n 1 32=true:=by simp[inR];omega
 have R0:=Rest.start (Qa4 n ⟨(k:Int),(s:Int),r,(t:Int),q⟩)
 have e:Qa4 n ⟨(k:Int),(s:Int),r,(t:Int),q⟩=lowB k 2++(lowB s 2++(r++(lowB t 2++(q++⟨#[]⟩)))):=by
  rw[Qa4,hk,if_pos rfl,Qx0,show ∀ X:ByteArray,X++(⟨#[]⟩:ByteArray)=X from fun X=>ByteArray.append_empty]
  simp only[ByteArray.append_assoc,Int.toNat_natCast]
 generalize Qa4 n ⟨(k:Int),(s:Int),r,(t:Int),q⟩=T at *
 rw[e] at R0
 obtain⟨p0,R1⟩:=R0.take (n:=2) rfl
 rw[<-e] at p0 R1
 obtain⟨p1,R2⟩:=R1.take (n:=2) rfl
 obtain⟨p2,R3⟩:=R2.take (n:=n.toNat) (by omega)
 obtain⟨p3,R4⟩:=R3.take (n:=2) rfl
 obtain⟨p4,R5⟩:=R4.take (n:=n.toNat) (by omega)
 have hD:hrD n T=⟨(k:Int),(s:Int),r,(t:Int),q⟩:=by
  show(⟨(Qb0 (Qaq T rh0 2):Int),(Qb0 (Qaq T (rh1 T rh0) 2):Int),Qaq T (rh2 T rh0) n.toNat,(Qb0 (Qaq T (rh3 T rh0 n.toNat) 2):Int),Qaq T (rh4 T rh0 n.toNat) n.toNat⟩:Qak)=_
  rw[show Qaq T rh0 2=_ from p0,show Qaq T (rh1 T rh0) 2=_ from p1,show Qaq T (rh2 T rh0) n.toNat=_ from p2,show Qaq T (rh3 T rh0 n.toNat) 2=_ from p3,show Qaq T (rh4 T rh0 n.toNat) n.toNat=_ from p4,Qhc (by omega),Qhc (by omega),Qhc (by omega)]
 refine⟨?_,hD⟩
 rw[Qer,hD,hk,hw,show Qfh T (rh5 T rh0 n.toNat)=true from R5.done]
 rfl
theorem Qki{α:Type}{f:α->α}:∀ {l:List α},(∀ x∈l,f x=x)->l.map f=l
 | [],_=>rfl
 | x :: r,h=>by rw[List.map_cons,h x (by simp),Qki (fun y hy=>h y (by simp[hy]))]
def Qcl (b:Qad):List ByteArray:=[Qai (Qay b 0),Qai (Qay b 1),Qai (Qay b 2)]
theorem Qce{b:Qad}(hB:Qar b=true)(f:Nat):unf (Qai (Qay b f))=(Qay b f,(Qai (Qay b f)).size)/\(Qai (Qay b f)).size<=300000:=by
 obtain⟨hw,h0,hE,h1,hR,_,h2,hH⟩:=Qbh hB
 have fk:=(Qg8 (Qhp h0 h1 h2 f) (Qfl hE hR hH f)).1
 rw[Qds fk]
 exact⟨Qwc fk,(Qek fk).2.2⟩
theorem Qvl{b:Qad}(hB:Qar b=true):Qbe (Qcl b) 0=Qct b/\Qbe (Qcl b) 1=Qcz b/\Qbe (Qcl b) 2=Qde b:=by
 refine⟨?_,?_,?_⟩
 · show(unf (Qai (Qay b 0))).1=_
   rw[(Qce hB 0).1,Qgw]
 · show(unf (Qai (Qay b 1))).1=_
   rw[(Qce hB 1).1,Qij]
 · show(unf (Qai (Qay b 2))).1=_
   rw[(Qce hB 2).1,Qii]
theorem reB0_of{b:Qad}(hB:Qar b=true){l:List ByteArray}(h0:Qbe l 0=Qct b)(h1:Qbe l 1=Qcz b)(h2:Qbe l 2=Qde b):reB0 b.width l={ b with sealed:=⟨⟨0,[]⟩,⟨0,[]⟩,hz⟩ }:=by
 obtain⟨hw,_,hE,_,hR,p0,_,hH⟩:=Qbh hB
 have e0:(Qct b).map rlD=b.log.entries:=by
  rw[Qct,List.map_map];exact Qki (fun x hx=>(Qrr (hE x hx)).2)
 have e2:(Qde b).map rrD=b.receipts:=by
  rw[Qde,List.map_map];exact Qki (fun x hx=>(Qlx (hR x hx)).2)
 have e1:newH true b.width :: (Qcz b).map (hrD b.width)=b.heads:=by
  have hz0:(b.heads.headD hz).eqb (newH true b.width)=true:=by
   rw[Qar,Bool.and_eq_true] at hB
   have p:=hB.1
   simp only[Qbu,Bool.and_eq_true] at p
   exact p.1.1.2
  rw[Qcz,List.map_map,Qki (f:=hrD b.width ∘ Qa4 b.width) (fun x hx=>(Qrz (hH x (List.mem_of_mem_drop hx))).2)]
  cases hh:b.heads with
  | nil=>rw[hh] at p0;simp at p0
  | cons x r=>
    rw[hh] at hz0
    rw[show x=newH true b.width from(Qak.eqb_iff _ _).1 hz0];rfl
 unfold reB0
 rw[h0,h1,h2,e0,e1,e2]
theorem Qt8{b:Qad}(hB:Qar b=true){l:List ByteArray}(h0:Qbe l 0=Qct b)(h1:Qbe l 1=Qcz b)(h2:Qbe l 2=Qde b)(hd:Qch l=true):reB b.width l=b/\Qdg b.width l=0:=by
 have e:=reB0_of hB h0 h1 h2
 obtain⟨hw,_,hE,_,hR,p0,_,hH⟩:=Qbh hB
 have hB':=hB
 rw[Qar,Bool.and_eq_true] at hB
 have hs:=Qfv.1 hB.2
 have p:=hB.1
 have p':=p
 simp only[Qbu,Bool.and_eq_true] at p'
 refine⟨?_,?_⟩
 · unfold reB
   rw[e]
   show(⟨b.width,b.log,b.receipts,b.heads,Qbx b.width (Qa8 b.width b.log.entries) (Qbp b.width b.receipts) (Qaw b.heads)⟩:Qad)=b
   rw[hs]
 · have a0:(Qbe l 0).all Qc7=true:=by
    rw[h0,Qct,List.all_map,List.all_eq_true]
    exact fun x hx=>(Qrr (hE x hx)).1
   have a1:(Qbe l 1).all (Qer b.width)=true:=by
    rw[h1,Qcz,List.all_map,List.all_eq_true]
    exact fun x hx=>(Qrz (hH x (List.mem_of_mem_drop hx))).1
   have a2:(Qbe l 2).all Qdf=true:=by
    rw[h2,Qde,List.all_map,List.all_eq_true]
    exact fun x hx=>(Qlx (hR x hx)).1
   have b1:Qgj (reB0 b.width l).log.entries=true:=by rw[e];exact p'.1.1.1.1.1.1.2
   have b2:Qdx (reB0 b.width l).receipts=true:=by rw[e];exact p'.1.1.1.1.1.2
   have b3:Qbu (reB0 b.width l)=true:=by rw[e];exact p
   rw[Qdg,hw,hd,a0,a1,a2,b1,b2,b3];rfl
theorem Qqt{b:Qad}(hB:Qar b=true):Qch (Qcl b)=true:=by
 have f0:=(Qce hB 0).2;have f1:=(Qce hB 1).2;have f2:=(Qce hB 2).2
 simp[Qch,Qcl,Qik,f0,f1,f2]
theorem Qky{b:Qad}(hB:Qar b=true)(i f:Nat):dmg1 i (Qai (Qay b f))=[]:=by
 rw[dmg1,(Qce hB f).1,if_neg (Nat.lt_irrefl _)]
theorem Qvp{b:Qad}(hB:Qar b=true):reB b.width (Qcl b)=b/\Qdg b.width (Qcl b)=0/\dmgs 0 (Qcl b)=[]:=by
 obtain⟨h0,h1,h2⟩:=Qvl hB
 obtain⟨a,c⟩:=Qt8 hB h0 h1 h2 (Qqt hB)
 refine⟨a,c,?_⟩
 simp[Qcl,dmgs,Qky hB]
theorem Qwf(U:ByteArray):∀(l:List ByteArray) (f p:Nat) (Y:ByteArray),(∀ T∈l,Qe5 T=true)->l.length<=f->Rest U (fa0 p) (Qal l++Y)->
 Qeu U f p=(l++(Qeu U (f-l.length) (p+(Qal l).size)).1,(Qeu U (f-l.length) (p+(Qal l).size)).2)
 | [],f,p,Y,_,_,_=>by rw[show p+(Qal []).size=p from rfl];rfl
 | T :: l,f,p,Y,ht,hf,h=>by
   have t1:=ht T (by simp)
   obtain⟨f,rfl⟩:∃ f',f=f'+1:=⟨f-1,by simp at hf;omega⟩
   rw[Qal,ByteArray.append_assoc] at h
   obtain⟨a1,a2,a3,a4⟩:=Qug h t1
   have hr:Rest U (fa0 (p+(Qb2 T).size)) (Qal l++Y):=by
    have e3:fa3 U p=fa0 (p+(Qb2 T).size):=by
     have hb:=a3.1
     cases hfa:fa3 U p with
     | mk pos bad=>rw[hfa] at a4 hb;simp only at a4 hb;rw[a4,hb];rfl
    rw[<-e3];exact a3
   have ih:=Qwf U l f (p+(Qb2 T).size) Y (fun x hx=>ht x (by simp[hx])) (by simp at hf;exact hf) hr
   have e1:f+1-(T :: l).length=f-l.length:=by simp
   have e2:p+(Qal (T :: l)).size=p+(Qb2 T).size+(Qal l).size:=by rw[Qal,ByteArray.size_append];omega
   rw[Qeu,if_pos a1,a2,a4,ih,e1,e2];rfl
theorem unf_nil{U:ByteArray}:∀ {f p:Nat},(Qeu U f p).1=[]->(Qeu U f p).2=p
 | 0,_,_=>rfl
 | f+1,p,h=>by
   rw[Qeu] at h ⊢
   split
   · rename_i hk;rw[if_pos hk] at h;simp at h
   · rfl
theorem unf_tail{l:List ByteArray}{Y:ByteArray}(h:Qb5 l=true)(hs:(Qal l).size+Y.size<=300000):∃ r,(unf (Qal l++Y)).1=l++r/\(r=[]->(unf (Qal l++Y)).2=(Qal l).size):=by
 obtain⟨h0,h1,h2⟩:=Qek h
 have e:=Qwf (Qal l++Y) l 600 0 Y h1 h0 (Rest.start _)
 rw[Nat.zero_add] at e
 rw[unf,if_pos (by rw[ByteArray.size_append];exact hs),e]
 exact⟨_,rfl,fun hr=>unf_nil hr⟩
theorem unf_torn{l:List ByteArray}{Y:ByteArray}(h:Qb5 l=true)(hs:(Qal l).size+Y.size<=300000)(hl:(unf (Qal l++Y)).1.length=l.length):unf (Qal l++Y)=(l,(Qal l).size):=by
 obtain⟨r,h1,h2⟩:=unf_tail h hs
 have hr:r=[]:=List.eq_nil_of_length_eq_zero (by rw[h1,List.length_append] at hl;omega)
 rw[hr,List.append_nil] at h1
 exact Prod.ext h1 (h2 hr)
def Qg0 (b:Qad) (k:Nat) (Y:ByteArray):List ByteArray:=(Qcl b).set k (Qai (Qay b k)++Y)
theorem Qea{b:Qad}(hB:Qar b=true)(f:Nat):Qb5 (Qay b f)=true/\Qai (Qay b f)=Qal (Qay b f)/\(Qal (Qay b f)).size<=260000:=by
 obtain⟨hw,h0,hE,h1,hR,_,h2,hH⟩:=Qbh hB
 have hl:=Qhp h0 h1 h2 f
 have hf:=Qfl hE hR hH f
 obtain⟨fk,fs⟩:=Qg8 hl hf
 refine⟨fk,Qds fk,?_⟩
 rw[<-Qds fk,fs]
 have:=Qqc (l:=Qay b f) (m:=500) (fun t ht=>(hf t ht).2)
 omega
theorem Qut{b:Qad}(hB:Qar b=true){k:Nat}(hk:k<3){Y:ByteArray}(hY:Y.size<=2000)(h0:0<Y.size)(hl:(unf (Qai (Qay b k)++Y)).1.length=(Qay b k).length) :
 reB b.width (Qg0 b k Y)=b/\Qdg b.width (Qg0 b k Y)=0/\dmgs 0 (Qg0 b k Y)=[(k,(Qai (Qay b k)).size)]:=by
 obtain⟨f1,f2,f3⟩:=Qea hB k
 rw[f2] at hl
 have hu:=unf_torn f1 (by omega) hl
 rw[<-f2] at hu
 have u0:=Qce hB 0;have u1:=Qce hB 1;have u2:=Qce hB 2
 have hs:(Qai (Qay b k)++Y).size=(Qai (Qay b k)).size+Y.size:=ByteArray.size_append
 have d0:=Qky hB 0 0;have d1:=Qky hB 1 1;have d2:=Qky hB 2 2
 have dk:∀ i,dmg1 i (Qai (Qay b k)++Y)=[(i,(Qai (Qay b k)).size)]:=fun i=>by
  rw[dmg1,hu,if_pos (by rw[hs];omega)]
 have hbig:(Qai (Qay b k)).size+Y.size<=300000:=by rw[f2];omega
 obtain rfl|rfl|rfl:k=0\/k=1\/k=2:=by omega
 · have e:Qg0 b 0 Y=[Qai (Qay b 0)++Y,Qai (Qay b 1),Qai (Qay b 2)]:=rfl
   obtain⟨a,c⟩:=Qt8 (l:=Qg0 b 0 Y) hB (by show(unf (Qai (Qay b 0)++Y)).1=_;rw[hu,Qgw]) (by show(unf (Qai (Qay b 1))).1=_;rw[u1.1,Qij]) (by show(unf (Qai (Qay b 2))).1=_;rw[u2.1,Qii]) (by rw[e];simp[Qch,Qik,hbig,u1.2,u2.2])
   exact⟨a,c,by rw[e];simp[dmgs,dk,d1,d2]⟩
 · have e:Qg0 b 1 Y=[Qai (Qay b 0),Qai (Qay b 1)++Y,Qai (Qay b 2)]:=rfl
   obtain⟨a,c⟩:=Qt8 (l:=Qg0 b 1 Y) hB (by show(unf (Qai (Qay b 0))).1=_;rw[u0.1,Qgw]) (by show(unf (Qai (Qay b 1)++Y)).1=_;rw[hu,Qij]) (by show(unf (Qai (Qay b 2))).1=_;rw[u2.1,Qii]) (by rw[e];simp[Qch,Qik,hbig,u0.2,u2.2])
   exact⟨a,c,by rw[e];simp[dmgs,dk,d0,d2]⟩
 · have e:Qg0 b 2 Y=[Qai (Qay b 0),Qai (Qay b 1),Qai (Qay b 2)++Y]:=rfl
   obtain⟨a,c⟩:=Qt8 (l:=Qg0 b 2 Y) hB (by show(unf (Qai (Qay b 0))).1=_;rw[u0.1,Qgw]) (by show(unf (Qai (Qay b 1))).1=_;rw[u1.1,Qij]) (by show(unf (Qai (Qay b 2)++Y)).1=_;rw[hu,Qii]) (by rw[e];simp[Qch,Qik,hbig,u0.2,u1.2])
   exact⟨a,c,by rw[e];simp[dmgs,dk,d0,d1]⟩
structure Deed (b b':Qad) (f:Nat) (t:ByteArray):Prop where
 was:Qar b=true
 ok:Qar b'=true
 wd:b'.width=b.width
 lt:f<3
 now:Qay b' f=Qay b f++[t]
 far:∀ g,g≠f->Qay b' g=Qay b g
theorem deed_pub{b:Qad}{e:Qaf}(hB:Qar b=true)(h:Qcu b.log.entries e=0):Deed b (pbB0 b e) 0 (Qa3 (Qfw b e)):=by
 refine⟨hB,Qri hB h,rfl,by decide,?_,fun g hg=>?_⟩
 · rw[Qgw,Qgw,Qct,Qct];show((b.log.entries++[Qfw b e]).map Qa3)=_;rw[List.map_append];rfl
 · simp only[Qay,if_neg hg];rfl
theorem Qx9{b:Qad}{r:Qab}(hB:Qar b=true)(h:Qee b r=0):Deed b (tkB b r) 2 (Qan r):=by
 refine⟨hB,Qo9 hB h,rfl,by decide,?_,fun g hg=>?_⟩
 · rw[Qii,Qii,Qde,Qde];show((b.receipts++[r]).map Qan)=_;rw[List.map_append];rfl
 · simp only[Qay,if_neg hg];rfl
theorem Qya{b:Qad}(hB:Qar b=true)(h:Qev b=0):Deed b (slB b) 1 (Qa4 b.width (Qb4 b)):=by
 have h0:=(Qbh hB).2.2.2.2.2.1
 refine⟨hB,Qpa hB h,rfl,by decide,?_,fun g hg=>?_⟩
 · rw[Qij,Qij,Qcz,Qcz];show(((b.heads++[Qb4 b]).drop 1).map (Qa4 b.width))=_
   rw[List.drop_append_of_le_length (by omega),List.map_append];rfl
 · simp only[Qay,if_neg hg];rfl
theorem Deed.fits{b b':Qad}{f:Nat}{t:ByteArray}(d:Deed b b' f t):Qe5 t=true/\t.size<=500/\Qb5 (Qay b f++[t])=true/\(Qal (Qay b f++[t])).size<=260000:=by
 obtain⟨_,h0,hE,h1,hR,_,h2,hH⟩:=Qbh d.ok
 have hf:=Qfl hE hR hH f
 rw[d.now] at hf
 obtain⟨a1,_,a3⟩:=Qea d.ok f
 rw[d.now] at a1 a3
 have:=hf t (by simp)
 exact⟨Qx5 this,this.2,a1,a3⟩
theorem Deed.out{b b':Qad}{f:Nat}{t:ByteArray}(d:Deed b b' f t):Qai (Qay b' f)=Qai (Qay b f)++Qax t/\Qax t=Qb2 t/\(Qb2 t).size<=506/\7<=(Qb2 t).size:=by
 obtain⟨f1,f2,f3,f4⟩:=d.fits
 obtain⟨a1,a2,_⟩:=Qea d.was f
 obtain⟨c1,c2,_⟩:=Qea d.ok f
 have e:Qax t=Qb2 t:=by rw[Qax];exact if_pos f1
 have hs:=Qd9 f1
 have:=Qkw f1
 refine⟨?_,e,by omega,by omega⟩
 rw[c2,a2,d.now,Qdz,e]
 simp only[Qal]
 rw[append_nil]
theorem Deed.disk{b b':Qad}{f:Nat}{t:ByteArray}(d:Deed b b' f t):(Qcl b).set f (Qai (Qay b f)++Qax t)=Qcl b':=by
 rw[<-d.out.1]
 have hlt:=d.lt
 obtain rfl|rfl|rfl:f=0\/f=1\/f=2:=by omega
 · show[_,Qai (Qay b 1),Qai (Qay b 2)]=_;rw[<-d.far 1 (by decide),<-d.far 2 (by decide)];rfl
 · show[Qai (Qay b 0),_,Qai (Qay b 2)]=_;rw[<-d.far 0 (by decide),<-d.far 2 (by decide)];rfl
 · show[Qai (Qay b 0),Qai (Qay b 1),_]=_;rw[<-d.far 0 (by decide),<-d.far 1 (by decide)];rfl
theorem Deed.at_{b b':Qad}{f:Nat}{t:ByteArray}(d:Deed b b' f t):(Qcl b)[f]?=some (Qai (Qay b f)):=by
 have hlt:=d.lt
 obtain rfl|rfl|rfl:f=0\/f=1\/f=2:=by omega
 all_goals rfl
theorem Deed.cut{b b':Qad}{f:Nat}{t:ByteArray}(d:Deed b b' f t){p:Nat}(hp:p<(Qax t).size):(unf (Qai (Qay b f)++(Qax t).extract 0 p)).1.length=(Qay b f).length:=by
 obtain⟨f1,f2,f3,f4⟩:=d.fits
 obtain⟨o1,o2,o3,o4⟩:=d.out
 obtain⟨a1,a2,_⟩:=Qea d.was f
 obtain⟨L,hL⟩:∃ L,L=Qay b f:=⟨_,rfl⟩
 rw[<-hL] at f3 f4 o1 a1 a2 ⊢
 have ex:Qal (L++[t])=Qal L++Qb2 t:=by
  rw[Qdz];simp only[Qal];rw[append_nil]
 have hs:(Qal (L++[t])).size=(Qal L).size+(Qb2 t).size:=by rw[ex,ByteArray.size_append]
 rw[o2] at hp ⊢
 obtain⟨m,m1,m2,m3,m4⟩:=Qo2 f3 (k:=(Qal L).size+p) (by omega)
 have e1:(Qal (L++[t])).extract 0 ((Qal L).size+p)=Qal L++(Qb2 t).extract 0 p:=by
  rw[ex,Qn3,Qdk (A:=Qal L) (j:=(Qal L).size+p) (Nat.le_add_right _ _),Nat.add_sub_cancel_left]
 rw[e1] at m2
 rw[a2,m2]
 have hm:m=L.length:=by
  have hll:(L++[t]).length=L.length+1:=by simp
  rw[hll] at m1
  rcases Nat.lt_or_ge L.length m with h|h
  · have:m=(L++[t]).length:=by rw[List.length_append,List.length_singleton];omega
    rw[this,List.take_length,hs] at m3
    omega
  · rcases Nat.lt_or_ge m L.length with h'|h'
    · have h5:=m4 (by rw[hll];omega)
      have e5:(L++[t])[m]'(by rw[List.length_append];omega)=L[m]:=List.getElem_append_left h'
      rw[e5,List.take_append_of_le_length (by omega)] at h5
      have h6:=Qgf (l:=L) (m+1)
      rw[Qei (List.getElem?_eq_getElem h'),ByteArray.size_append] at h6
      omega
    · omega
 show((L++[t]).take m).length=L.length
 rw[List.length_take,List.length_append,List.length_singleton,hm];omega
end Go.Proofs.YtbnkjgcpjeedfaaGreat

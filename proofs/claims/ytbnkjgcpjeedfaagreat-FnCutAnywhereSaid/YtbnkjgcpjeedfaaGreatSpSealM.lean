/-
  SpTak2; SpSealM: No condition.
-/
import Derived.Test.YtbnkjgcpjeedfaaGreatSpTake
import Derived.Test.YtbnkjgcpjeedfaaGreatSpFile
namespace Go.Proofs.YtbnkjgcpjeedfaaGreat
set_option linter.unusedSimpArgs false
open Go.RowKit
set_option linter.unusedVariables false

set_option maxHeartbeats 8000000
set_option maxRecDepth 100000
theorem Qr2{w:Int}{l:List ByteArray}(hw:inR w 1 32=true)(h:∀ x∈l,WdT w x):Qdy w l=true:=
 Qno fun k hk=>by
  have h1:=h _ (List.getElem_mem hk)
  have h2:=Qa0 hw
  unfold WdT at h1
  rw[h1,beq_iff_eq]
  omega
theorem Quy{b:Qad}(h:Qar b=true):Qh2 b.width b.sealed=true:=by
 have h1:=h
 rw[Qar,Bool.and_eq_true] at h1
 have h2:=Qtl b h1.1
 rw[h] at h2
 simp only[Bool.and_eq_true] at h2
 exact h2.1.1.1
theorem Qrg{w:Int}{s:Qlb}(h:Qh2 w s=true):Qck w s.leaves=true/\Qck w s.taken=true:=by
 simp only[Qh2,Bool.and_eq_true] at h
 exact⟨h.1.1.1.1.1.1,h.1.1.1.1.1.2⟩
theorem Qsw(b:Qad)(n1 n2:Nat)(A3:Option Addr)(a3:Nat)(A4:Option Addr)(a4:Nat)(w:World)(sf:SlF_ b n1 n2)(hB:Qar b=true)(h400:b.heads.length<400)(hr1:Qav w w.heap.size sone 1 A3 b.sealed.leaves.peaks)(hr2:Qav w w.heap.size sone 1 A4 b.sealed.taken.peaks)(hz:BSz b)
 (l1 l2:List ByteArray) (hl1:l1=(slL b).drop n1) (hl2:l2=(slT b).drop n2) (HA:Option Addr) (ha:Nat) (HB:Option Addr) (hb:Nat) (q1:Qav w w.heap.size sone 1 HA l1) (q2:Qav w w.heap.size sone 1 HB l2) :
 Calls Tryz.prog 160 #[.int .i64 b.width,.agg (Qdw b.sealed A3 a3 A4 a4).toArray,.slice HA l1.length ha,.slice HB l2.length hb] w fun e w'=>∃ m V3 v3 V4 v4,e=.returned (.tuple #[.agg (Qdw (Qa6 b) V3 v3 V4 v4).toArray,.int .i64 m,.int .i64 0])/\RowT w.heap.size w' (.slice V3 (Qa6 b).leaves.peaks.length v3) (Qa6 b).leaves.peaks/\RowT w.heap.size w' (.slice V4 (Qa6 b).taken.peaks.length v4) (Qa6 b).taken.peaks/\(∀ x,(Value.slice V3 (Qa6 b).leaves.peaks.length v3).ownBlock=some x->(Value.slice V4 (Qa6 b).taken.peaks.length v4).ownBlock≠some x)/\Ext w w':=by
 have eL:(slL b).length=b.log.entries.length:=by rw[slL,Qa8,List.length_map]
 have eT:(slT b).length=b.receipts.length:=by rw[slT,Qbp,List.length_map]
 have f1:=sf.e;have f2:=sf.r;have f3:=sf.le;have f4:=sf.lr
 have d1:l1.length=(slL b).length-n1:=by rw[hl1,List.length_drop]
 have d2:l2.length=(slT b).length-n2:=by rw[hl2,List.length_drop]
 have w1:∀ x∈l1,WdT b.width x:=fun x hx=>sf.l x (by rw[hl1] at hx;exact List.mem_of_mem_drop hx)
 have w2:∀ x∈l2,WdT b.width x:=fun x hx=>sf.m x (by rw[hl2] at hx;exact List.mem_of_mem_drop hx)
 have so:=Quy hB
 have sp:=Qrg so
 have z:=sf.z
 have k1:b.sealed.leaves.size=(n1:Int):=by rw[z]
 have k2:b.sealed.taken.size=(n2:Int):=by rw[z]
 have k3:b.sealed.leaves.peaks.reverse=Qbt (ndB b.width) ((slL b).take n1):=by rw[z,List.reverse_reverse]
 have k4:b.sealed.taken.peaks.reverse=Qbt (ndB b.width) ((slT b).take n2):=by rw[z,List.reverse_reverse]
 have k5:b.sealed.head.number=((b.heads.length-1:Nat):Int):=by rw[z];exact sf.n
 obtain⟨N1,hN1⟩:∃ N1,N1=(slL b).length:=⟨_,rfl⟩
 obtain⟨N2,hN2⟩:∃ N2,N2=(slT b).length:=⟨_,rfl⟩
 obtain⟨P1,hP1⟩:∃ P1,P1=(Qa6 b).leaves.peaks:=⟨_,rfl⟩
 obtain⟨P2,hP2⟩:∃ P2,P2=(Qa6 b).taken.peaks:=⟨_,rfl⟩
 obtain⟨t1,ht1⟩:∃ t1,t1=Qff b.width (slL b):=⟨_,rfl⟩
 obtain⟨t2,ht2⟩:∃ t2,t2=Qff b.width (slT b):=⟨_,rfl⟩
 obtain⟨nb,hnb⟩:∃ nb,nb=b.sealed.head.number:=⟨_,rfl⟩
 have C1:Hid (∀ W:World,Ext w W->Calls Tryz.prog 224 #[.int .i64 b.width,.agg (Qdw b.sealed A3 a3 A4 a4).toArray] W fun e w'=>e=.returned (.bool true)/\Ext W w'):=hU (fun W hW=>by
  have h:=Qvy b.width b.sealed A3 a3 A4 a4 W (hr1.ext hW) (hr2.ext hW) hz.u hz.v
  rw[so] at h;exact h)
 have C2:Hid (∀ W:World,Ext w W->Calls Tryz.prog 225 #[.int .i64 b.width,.slice HA l1.length ha] W fun e w'=>e=.returned (.bool true)/\Ext W w'):=hU (fun W hW=>by
  have h:=Qfx b.width HA ha l1 W (q1.ext hW) (by omega)
  rw[Qr2 sf.w w1,sf.w] at h;exact h)
 have C3:Hid (∀ W:World,Ext w W->Calls Tryz.prog 225 #[.int .i64 b.width,.slice HB l2.length hb] W fun e w'=>e=.returned (.bool true)/\Ext W w'):=hU (fun W hW=>by
  have h:=Qfx b.width HB hb l2 W (q2.ext hW) (by omega)
  rw[Qr2 sf.w w2,sf.w] at h;exact h)
 have C4:Hid (∀ W:World,Ext w W->Calls Tryz.prog 226 #[.int .i64 b.width,.agg #[.int .i64 b.sealed.leaves.size,.slice A3 b.sealed.leaves.peaks.length a3],.slice HA l1.length ha] W fun e w'=>∃ m v,e=.returned (.tuple #[.agg #[.int .i64 (N1:Int),v],.int .i64 m,.bool true])/\RowT W.heap.size w' v P1/\Ext W w'):=hU (fun W hW=>by
  have h:=Ql8 b.width sf.w b.sealed.leaves A3 a3 HA ha l1 W (hr1.ext hW) (q1.ext hW) sp.1 w1 (by rw[k1];omega)
  rw[k3,show b.sealed.leaves.size.toNat=n1 by rw[k1];rfl,hl1,Qp1 _ _ (by omega),<-hl1,show b.sealed.leaves.size+(l1.length:Int)=(N1:Int) by rw[k1];omega] at h
  rw[hP1];exact h)
 have C5:Hid (∀ W:World,Ext w W->Calls Tryz.prog 226 #[.int .i64 b.width,.agg #[.int .i64 b.sealed.taken.size,.slice A4 b.sealed.taken.peaks.length a4],.slice HB l2.length hb] W fun e w'=>∃ m v,e=.returned (.tuple #[.agg #[.int .i64 (N2:Int),v],.int .i64 m,.bool true])/\RowT W.heap.size w' v P2/\Ext W w'):=hU (fun W hW=>by
  have h:=Ql8 b.width sf.w b.sealed.taken A4 a4 HB hb l2 W (hr2.ext hW) (q2.ext hW) sp.2 w2 (by rw[k2];omega)
  rw[k4,show b.sealed.taken.size.toNat=n2 by rw[k2];rfl,hl2,Qp1 _ _ (by omega),<-hl2,show b.sealed.taken.size+(l2.length:Int)=(N2:Int) by rw[k2];omega] at h
  rw[hP2];exact h)
 have sz:=Qt0 sf hz
 have C6:Hid (∀(W:World) (V:Option Addr) (v:Nat),RowT w.heap.size W (.slice V P1.length v) P1->Calls Tryz.prog 227 #[.int .i64 b.width,.agg #[.int .i64 (N1:Int),.slice V P1.length v]] W fun e w'=>∃ m,e=.returned (.tuple #[.string t1,.int .i64 m,.bool true])/\Ext W w'):=hU (fun W V v hv=>by
  have h:=Qf0 b.width (Qbi b.width (slL b)) V v W (by rw[hP1] at hv;exact(Qb6 hv).reads) sz.u
  rw[Qiv sf.w (by omega) sf.l,if_pos rfl,Qfi] at h
  rw[hP1,hN1,ht1];exact h)
 have C7:Hid (∀(W:World) (V:Option Addr) (v:Nat),RowT w.heap.size W (.slice V P2.length v) P2->Calls Tryz.prog 227 #[.int .i64 b.width,.agg #[.int .i64 (N2:Int),.slice V P2.length v]] W fun e w'=>∃ m,e=.returned (.tuple #[.string t2,.int .i64 m,.bool true])/\Ext W w'):=hU (fun W V v hv=>by
  have h:=Qf0 b.width (Qbi b.width (slT b)) V v W (by rw[hP2] at hv;exact(Qb6 hv).reads) sz.v
  rw[Qiv sf.w (by omega) sf.m,if_pos rfl,Qfi] at h
  rw[hP2,hN2,ht2];exact h)
 have nb1:0<=nb/\nb<=398:=by rw[hnb,k5];have:=sf.h0;omega
 have w3_:IntKind.i64.wrap (nb+1)=nb+1:=IntWalk.i64_in _ (by omega)
 have n399:(nb==399)=false:=beq_false_of_ne (by omega)
 have HS:=hU (show ∀ V3 v3 V4 v4,Qdw (Qa6 b) V3 v3 V4 v4=[.int .i64 (N1:Int),.slice V3 P1.length v3,.int .i64 (N2:Int),.slice V4 P2.length v4,.int .i64 (nb+1),.int .i64 (N1:Int),.string t1,.int .i64 (N2:Int),.string t2] from fun V3 v3 V4 v4=>by
  rw[hN1,hN2,hP1,hP2,ht1,ht2,hnb,show b.sealed.head=Qaw b.heads by rw[z]];rfl)
 have HP1:=hU hP1;have HP2:=hU hP2
 obtain⟨sv,hsv⟩:∃ sv,sv=Qdw b.sealed A3 a3 A4 a4:=⟨_,rfl⟩
 have SV9:=hU (show sv.length=9 by rw[hsv];rfl)
 have BH:Hid (∀(W:World) (g:Nat),Blk W g 35 sv.toArray->W.cell? ⟨g,0,none⟩=some (.int .i64 b.sealed.leaves.size)/\W.cell? ⟨g,1,none⟩=some (.slice A3 b.sealed.leaves.peaks.length a3)/\W.cell? ⟨g,2,none⟩=some (.int .i64 b.sealed.taken.size)/\W.cell? ⟨g,3,none⟩=some (.slice A4 b.sealed.taken.peaks.length a4)/\W.cell? ⟨g,4,none⟩=some (.int .i64 nb)):=hU (fun W g h=>by
  rw[hsv] at h
  rw[hnb]
  exact⟨h.cell 0,h.cell 1,h.cell 2,h.cell 3,h.cell 4⟩)
 rw[<-hsv] at C1
 rw[<-hsv]
 obtain⟨p1,hp1⟩:∃ p1,p1=P1.length:=⟨_,rfl⟩
 obtain⟨p2,hp2⟩:∃ p2,p2=P2.length:=⟨_,rfl⟩
 rw[<-hp1] at C6
 rw[<-hp2] at C7
 have HQ1:=hU hp1;have HQ2:=hU hp2
 clear sf hB h400 hr1 hr2 hz hl1 hl2 q1 q2 eL eT f1 f2 f3 f4 d1 d2 w1 w2 so sp z k1 k2 k3 k4 k5 hN1 hN2 hP1 hP2 ht1 ht2 hnb sz nb1 hsv hp1 hp2
 obtain⟨B1,B2,he⟩:=Qcq w sv.toArray #[.int .i64 0,.slice none 0 0,.int .i64 0,.slice none 0 0,.int .i64 0,.int .i64 0,.string ⟨#[]⟩,.int .i64 0,.string ⟨#[]⟩] 35 35
 obtain⟨g1,hg1⟩:∃ g1,g1=w.heap.size:=⟨_,rfl⟩
 obtain⟨g2,hg2⟩:∃ g2,g2=w.heap.size+1:=⟨_,rfl⟩
 go_enter Tryz.func160,Tryz.ntmps160
 go_upto_region 1 with fail
 obtain⟨w3,hw3⟩:∃ w3,w3=(w.alloc (.cells sv.toArray 35)).alloc (.cells #[.int .i64 0,.slice none 0 0,.int .i64 0,.slice none 0 0,.int .i64 0,.int .i64 0,.string ⟨#[]⟩,.int .i64 0,.string ⟨#[]⟩] 35):=⟨_,rfl⟩
 rw[<-hw3] at B1 B2 he
 rw[<-hw3]
 rw[<-hg2] at B2
 rw[<-hg1] at B1
 rw[<-hg2,<-hg1]
 have hw:w.heap.size<=g2:=by omega
 clear hw3 hg1 hg2
 have RX:=hU (Blk.range B1)
 go_wp2_with (refine wpList_load_mid rfl 35 _ rfl g1 0 rfl sv _ RX.out Tryz.underlying35 rfl (by rw[SV9.out];kernel_rfl) ?_)
 refine(C1.out _ he).mono ?_
 rintro e w4 ⟨rfl,h1⟩
 replace he:=he.next h1;replace B1:=B1.ext h1;replace B2:=B2.ext h1
 clear h1 RX
 go_wp2_with fail
 refine(C2.out _ he).mono ?_
 rintro e w5 ⟨rfl,h1⟩
 replace he:=he.next h1;replace B1:=B1.ext h1;replace B2:=B2.ext h1
 clear h1
 go_wp2_with fail
 refine(C3.out _ he).mono ?_
 rintro e w6 ⟨rfl,h1⟩
 replace he:=he.next h1;replace B1:=B1.ext h1;replace B2:=B2.ext h1
 obtain⟨x0,x1,x2,x3,x4⟩:=BH.out _ _ B1
 clear h1
 go_wp2_with fail
 refine(C4.out _ he).mono ?_
 rintro e w7 ⟨m1,v',rfl,r1,h1⟩
 have q1:=RowT.ofBase r1 he.size
 have lw6:=Nat.le_refl w7.heap.size
 replace he:=he.next h1;replace B1:=B1.ext h1;replace B2:=B2.ext h1
 obtain⟨V3,v3,rfl,_⟩:=Qae q1
 rw[<-HQ1.out] at q1
 rw[<-HQ1.out]
 clear h1 x0 x1 x2 x3 x4 lw6 r1
 go_upto_region 8 with fail
 have Q1:=Blk.new w7 31 #[.int .i64 (N1:Int),.slice V3 p1 v3]
 have h1:=Ext.new (Below.refl w7.heap.size w7) (.cells #[.int .i64 (N1:Int),.slice V3 p1 v3] 31)
 replace he:=he.next h1;replace B1:=B1.ext h1;replace B2:=B2.ext h1;replace q1:=RowT.ext q1 h1
 obtain⟨qa,hqa⟩:∃ qa,qa=w7.heap.size:=⟨_,rfl⟩
 rw[<-hqa] at Q1
 rw[<-hqa]
 clear h1 hqa
 generalize w7.alloc (.cells #[.int .i64 (N1:Int),.slice V3 p1 v3] 31)=w8 at *
 obtain⟨x0,x1,x2,x3,x4⟩:=BH.out _ _ B1
 go_wp2_with fail
 refine(C5.out _ he).mono ?_
 rintro e w9 ⟨m2,v',rfl,r2,h1⟩
 have apx:∀ x,(Value.slice V3 p1 v3).ownBlock=some x->v'.ownBlock≠some x:=fun x h3 h4=>by have h5:=(q1.lt x h3).2;have h6:=(r2.lt x h4).1;omega
 have q2:=RowT.ofBase r2 he.size
 replace he:=he.next h1;replace B1:=B1.ext h1;replace B2:=B2.ext h1;replace Q1:=Q1.ext h1;replace q1:=RowT.ext q1 h1
 obtain⟨V4,v4,rfl,_⟩:=Qae q2
 rw[<-HQ2.out] at q2 apx
 rw[<-HQ2.out]
 have APX:=hU apx
 clear h1 x0 x1 x2 x3 x4 r2 apx
 go_upto_region 9 with fail
 have Q2:=Blk.new w9 31 #[.int .i64 (N2:Int),.slice V4 p2 v4]
 have h1:=Ext.new (Below.refl w9.heap.size w9) (.cells #[.int .i64 (N2:Int),.slice V4 p2 v4] 31)
 replace he:=he.next h1;replace B1:=B1.ext h1;replace B2:=B2.ext h1;replace Q1:=Q1.ext h1;replace q1:=RowT.ext q1 h1;replace q2:=RowT.ext q2 h1
 obtain⟨qb,hqb⟩:∃ qb,qb=w9.heap.size:=⟨_,rfl⟩
 rw[<-hqb] at Q2
 rw[<-hqb]
 clear h1 hqb
 generalize w9.alloc (.cells #[.int .i64 (N2:Int),.slice V4 p2 v4] 31)=wa at *
 obtain⟨x0,x1,x2,x3,x4⟩:=BH.out _ _ B1
 obtain⟨ra,fa⟩:=Q1.rules
 go_wp2_with fail
 refine(C6.out _ _ _ q1).mono ?_
 rintro e wb ⟨m3,rfl,h1⟩
 replace he:=he.next h1;replace B1:=B1.ext h1;replace B2:=B2.ext h1;replace Q1:=Q1.ext h1;replace Q2:=Q2.ext h1;replace q1:=RowT.ext q1 h1;replace q2:=RowT.ext q2 h1
 clear h1 x0 x1 x2 x3 x4 ra fa
 obtain⟨rb,fb⟩:=Q2.rules
 go_wp2_with fail
 refine(C7.out _ _ _ q2).mono ?_
 rintro e wd ⟨m4,rfl,h1⟩
 replace he:=he.next h1;replace B1:=B1.ext h1;replace B2:=B2.ext h1;replace Q1:=Q1.ext h1;replace Q2:=Q2.ext h1;replace q1:=RowT.ext q1 h1;replace q2:=RowT.ext q2 h1
 clear h1 rb fb
 obtain⟨x0,x1,x2,x3,x4⟩:=BH.out _ _ B1
 obtain⟨ra,fa⟩:=Q1.rules
 obtain⟨rb,fb⟩:=Q2.rules
 go_upto_region 14 with fail
 have Q3:=Blk.new wd 33 #[.int .i64 (nb+1),.int .i64 (N1:Int),.string t1,.int .i64 (N2:Int),.string t2]
 have h1:=Ext.new (Below.refl wd.heap.size wd) (.cells #[.int .i64 (nb+1),.int .i64 (N1:Int),.string t1,.int .i64 (N2:Int),.string t2] 33)
 replace he:=he.next h1;replace B2:=B2.ext h1;replace Q1:=Q1.ext h1;replace Q2:=Q2.ext h1;replace q1:=RowT.ext q1 h1;replace q2:=RowT.ext q2 h1
 obtain⟨qc,hqc⟩:∃ qc,qc=wd.heap.size:=⟨_,rfl⟩
 rw[<-hqc] at Q3
 rw[<-hqc]
 clear h1 hqc x0 x1 x2 x3 x4 ra fa rb fb
 generalize wd.alloc (.cells #[.int .i64 (nb+1),.int .i64 (N1:Int),.string t1,.int .i64 (N2:Int),.string t2] 33)=we at *
 obtain⟨ra,fa⟩:=Q1.rules
 obtain⟨rb,fb⟩:=Q2.rules
 obtain⟨rc,fc⟩:=Q3.rules
 have hgb:=B2.lt
 obtain⟨wz,hwz,hz,hx⟩:∃ wz,wz=we.setCells g2 0 [.int .i64 (N1:Int),.slice V3 p1 v3,.int .i64 (N2:Int),.slice V4 p2 v4,.int .i64 (nb+1),.int .i64 (N1:Int),.string t1,.int .i64 (N2:Int),.string t2]/\Blk wz g2 35 #[.int .i64 (N1:Int),.slice V3 p1 v3,.int .i64 (N2:Int),.slice V4 p2 v4,.int .i64 (nb+1),.int .i64 (N1:Int),.string t1,.int .i64 (N2:Int),.string t2]/\Ext w wz:=⟨_,rfl,Qas B2 [.int .i64 (N1:Int),.slice V3 p1 v3,.int .i64 (N2:Int),.slice V4 p2 v4,.int .i64 (nb+1),.int .i64 (N1:Int),.string t1,.int .i64 (N2:Int),.string t2] rfl,Qaa hw [.int .i64 (N1:Int),.slice V3 p1 v3,.int .i64 (N2:Int),.slice V4 p2 v4,.int .i64 (nb+1),.int .i64 (N1:Int),.string t1,.int .i64 (N2:Int),.string t2] 0 _ he⟩
 have key:∀ {v:Value} {l:List ByteArray},RowT w.heap.size we v l->RowT w.heap.size wz v l:=fun h=>by
  rw[hwz];exact Qa1 h B2 (by decide) _ _
 have HW:=hU hwz;have T4:=hU (B2.there 0 9 (by simp));have Z4:=hU hz;have X4:=hU hx;have R1:=hU (key q1);have R2:=hU (key q2)
 clear hwz hz hx key q1 q2 B1 B2 Q1 Q2 Q3 he
 go_wp2_with (refine Qac rfl 35 _ _ rfl rfl g2 0 [.int .i64 (N1:Int),.slice V3 p1 v3,.int .i64 (N2:Int),.slice V4 p2 v4,.int .i64 (nb+1),.int .i64 (N1:Int),.string t1,.int .i64 (N2:Int),.string t2] rfl rfl T4.out (by kernel_rfl) (by rfl) ?_;rw[<-HW.out])
 refine Qd6 rfl rfl Z4.out Tryz.underlying35 rfl (by kernel_rfl) rfl ?_
 have e1:=HQ1.out;have e2:=HQ2.out;have e3:=HP1.out;have e4:=HP2.out
 have ap:=APX.out;have r1:=R1.out;have r2:=R2.out
 rw[e1,e3] at ap r1
 rw[e2,e4] at ap r2
 refine⟨?mm,V3,v3,V4,v4,?ee,r1,r2,ap,X4.out⟩
 case ee=>
  rw[HS.out,<-HQ1.out,<-HQ2.out]
  rfl
end Go.Proofs.YtbnkjgcpjeedfaaGreat

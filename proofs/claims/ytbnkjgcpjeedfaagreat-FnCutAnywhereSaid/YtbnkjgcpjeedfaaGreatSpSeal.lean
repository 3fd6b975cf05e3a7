/-
  SpSeal: No condition.
-/
import Derived.Test.YtbnkjgcpjeedfaaGreatSpSealM
namespace Go.Proofs.YtbnkjgcpjeedfaaGreat
set_option maxHeartbeats 16000000
set_option maxRecDepth 100000
set_option linter.unusedSimpArgs false
open Go.RowKit
set_option linter.unusedVariables false
theorem Qs7(b:Qad)(A0:Option Addr)(a0:Nat)(A1:Option Addr)(a1:Nat)(A2:Option Addr)(a2:Nat)(A3:Option Addr)(a3:Nat)(A4:Option Addr)(a4:Nat)(w:World)(s:BArg AnyB w b A0 a0 A1 a1 A2 a2 A3 a3 A4 a4)(hk:TxOk b)(hB:Qar b=true) :
 Calls Tryz.prog 95 #[.agg (brkV b A0 a0 A1 a1 A2 a2 A3 a3 A4 a4).toArray] w (Qol (snB b) (snW b) (Qcw b) w):=by
 obtain⟨i0,hi,hz0,hz1,hz2⟩:=info_parts infH
 obtain⟨n1,n2,sf⟩:=Qir hB
 have hp:=Qbh hB
 have ff:=Qfl hp.2.2.1 hp.2.2.2.2.1 hp.2.2.2.2.2.2.2 1
 have fl:=Qhp (b:=b) hp.2.1 hp.2.2.2.1 hp.2.2.2.2.2.2.1 1
 have hfo:=(Qg8 fl ff).2
 have SF:=hU sf;have HBB:=hU hB;have HK:=hU hk
 obtain⟨l1,hl1⟩:∃ l1,l1=(slL b).drop n1:=⟨_,rfl⟩
 obtain⟨l2,hl2⟩:∃ l2,l2=(slT b).drop n2:=⟨_,rfl⟩
 obtain⟨A7,hA7⟩:∃ A7,A7=Qhx A0 a0 n1 5:=⟨_,rfl⟩
 obtain⟨a7,ha7⟩:∃ a7,a7=a0-n1:=⟨_,rfl⟩
 obtain⟨A8,hA8⟩:∃ A8,A8=Qhx A1 a1 n2 3:=⟨_,rfl⟩
 obtain⟨a8,ha8⟩:∃ a8,a8=a1-n2:=⟨_,rfl⟩
 have e1:(b.log.entries.drop n1).length=l1.length:=by rw[hl1,List.length_drop,List.length_drop,slL,Qa8,List.length_map]
 have e2:(b.receipts.drop n2).length=l2.length:=by rw[hl2,List.length_drop,List.length_drop,slT,Qbp,List.length_map]
 have m1:(b.log.entries.drop n1).map (Qgk b.width)=l1:=by rw[hl1,slL,Qa8,List.map_drop]
 have m2:(b.receipts.drop n2).map (recH b.width)=l2:=by rw[hl2,slT,Qbp,List.map_drop]
 obtain⟨lh,hlh⟩:∃ lh,lh=Qaw b.heads:=⟨_,rfl⟩
 obtain⟨N0,hN0⟩:∃ N0,N0=b.log.entries.length:=⟨_,rfl⟩
 obtain⟨N1,hN1⟩:∃ N1,N1=b.receipts.length:=⟨_,rfl⟩
 obtain⟨N2,hN2⟩:∃ N2,N2=b.heads.length:=⟨_,rfl⟩
 have RF1:Hid (∀ W:World,(Instr.slice 24 (.slice A0 N0 a0) (some (.int .i64 lh.size)) none none).run Tryz.prog W=.ok (.slice A7 l1.length a7) W):=hU (fun W=>by
  rw[hN0,Qka (P:=Tryz.prog) (t:=24) A0 b.log.entries.length a0 n1 5 Tryz.underlying24 (fun W=>by kernel_rfl) sf.e (x:=lh.size) (by rw[hlh];exact sf.s) W,hA7,ha7,<-e1,List.length_drop])
 have RF2:Hid (∀ W:World,(Instr.slice 27 (.slice A1 N1 a1) (some (.int .i64 lh.taken)) none none).run Tryz.prog W=.ok (.slice A8 l2.length a8) W):=hU (fun W=>by
  rw[hN1,Qka (P:=Tryz.prog) (t:=27) A1 b.receipts.length a1 n2 3 Tryz.underlying27 (fun W=>by kernel_rfl) sf.r (x:=lh.taken) (by rw[hlh];exact sf.t) W,hA8,ha8,<-e2,List.length_drop])
 have CH:Hid (∀(W:World),Ext w W->Calls Tryz.prog 161 #[.int .i64 b.width,.slice A7 l1.length a7] W fun e w'=>∃ v,e=.returned v/\RowT W.heap.size w' v l1/\Ext W w'):=hU (fun W hW=>by
  have h:=Qql b.width A7 a7 (b.log.entries.drop n1) W (by rw[hA7,ha7];exact Qmi Qaf.cells_length (s.ext hW).e n1 sf.e) (fun d hd=>hk.e d (List.mem_of_mem_drop hd)) (by have:=sf.le;rw[List.length_drop];omega)
  rw[e1,m1] at h
  exact h)
 have CT:Hid (∀(W:World),Ext w W->Calls Tryz.prog 162 #[.int .i64 b.width,.slice A8 l2.length a8] W fun e w'=>∃ v,e=.returned v/\RowT W.heap.size w' v l2/\Ext W w'):=hU (fun W hW=>by
  have h:=Qrs b.width A8 a8 (b.receipts.drop n2) W (by rw[hA8,ha8];exact Qmi Qab.cells_length (s.ext hW).r n2 sf.r) (fun d hd=>hk.r d (List.mem_of_mem_drop hd)) (by have:=sf.lr;rw[List.length_drop];omega)
  rw[e2,m2] at h
  exact h)
 obtain⟨sv,hsv⟩:∃ sv,sv=Qdw b.sealed A3 a3 A4 a4:=⟨_,rfl⟩
 have CM:Hid (∀(W:World),Ext w W->b.heads.length<400->∀(HA:Option Addr) (ha:Nat) (HB:Option Addr) (hb:Nat),RowT w.heap.size W (.slice HA l1.length ha) l1->RowT w.heap.size W (.slice HB l2.length hb) l2->Calls Tryz.prog 160 #[.int .i64 b.width,.agg sv.toArray,.slice HA l1.length ha,.slice HB l2.length hb] W fun e w'=>∃ m V3 v3 V4 v4,e=.returned (.tuple #[.agg (Qdw (Qa6 b) V3 v3 V4 v4).toArray,.int .i64 m,.int .i64 0])/\RowT W.heap.size w' (.slice V3 (Qa6 b).leaves.peaks.length v3) (Qa6 b).leaves.peaks/\RowT W.heap.size w' (.slice V4 (Qa6 b).taken.peaks.length v4) (Qa6 b).taken.peaks/\(∀ x,(Value.slice V3 (Qa6 b).leaves.peaks.length v3).ownBlock=some x->(Value.slice V4 (Qa6 b).taken.peaks.length v4).ownBlock≠some x)/\Ext W w'):=hU (fun W hW h4 HA ha HB hb q1 q2=>by
  rw[hsv]
  exact Qsw b n1 n2 A3 a3 A4 a4 W sf hB h4 (s.ext hW).u.reads (s.ext hW).v.reads hk.n l1 l2 hl1 hl2 HA ha HB hb (Qb6 q1).reads (Qb6 q2).reads)
 have LW:Hid (∀(W:World) (t:ByteArray) (ht:t.size<=maxLen) (hW:Ext w W),Calls Tryz.prog 165 #[.agg (brkV b A0 a0 A1 a1 A2 a2 A3 a3 A4 a4).toArray,.int .i64 1,.string t] W fun e w'=>∃ v,e=.returned v/\w'.ownsRow W.heap.size 50 3 v 1 (Qcs b 1 t).cells/\Ext W w'):=hU (fun W t ht hW=>Qic b 1 (by decide) t A0 a0 A1 a1 A2 a2 A3 a3 A4 a4 W (s.ext hW) hk (by omega) (fun t ht=>Qcx (by have:=(ff t ht).2;omega)) hfo ht)
 have CB:Hid (∀(W:World) (hW:Ext w W),Calls Tryz.prog 164 #[.agg (brkV b A0 a0 A1 a1 A2 a2 A3 a3 A4 a4).toArray] W fun e w'=>∃ V0 v0 V1 v1 V2 v2 V3 v3 V4 v4,e=.returned (.agg (brkV b V0 v0 V1 v1 V2 v2 V3 v3 V4 v4).toArray)/\Qb9 W.heap.size w' b (.slice V0 b.log.entries.length v0) (.slice V1 b.receipts.length v1) (.slice V2 b.heads.length v2) (.slice V3 b.sealed.leaves.peaks.length v3) (.slice V4 b.sealed.taken.peaks.length v4)/\(∀ x,(Value.slice V3 b.sealed.leaves.peaks.length v3).ownBlock=some x->(Value.slice V4 b.sealed.taken.peaks.length v4).ownBlock≠some x)/\Ext W w'):=hU (fun W hW=>Qju b A0 a0 A1 a1 A2 a2 A3 a3 A4 a4 W (s.ext hW) hk.n)
 obtain⟨cs,hcs⟩:∃ cs,cs=(brkV b A0 a0 A1 a1 A2 a2 A3 a3 A4 a4):=⟨_,rfl⟩
 have HL13:=hU (show cs.length=13 by rw[hcs];rfl)
 have LL:Hid (∀(W:World) (hW:Ext w W),Calls Tryz.prog 123 #[.agg cs.toArray] W fun e w'=>e=.returned (.agg #[.int .i64 lh.number,.int .i64 lh.size,.string lh.root,.int .i64 lh.taken,.string lh.takenRoot])/\Ext W w'):=hU (fun W hW=>by
  rw[hlh];exact Qng cs A2 a2 b.heads W HL13.out (by rw[hcs];rfl) (s.ext hW).h.reads hk.h hk.n.h)
 have BH:Hid (∀(W:World) (g:Nat),Blk W g 37 cs.toArray->W.cell? ⟨g,0,none⟩=some (.int .i64 b.width)/\W.cell? ⟨g,1,none⟩=some (.slice A0 N0 a0)/\W.cell? ⟨g,2,none⟩=some (.slice A1 N1 a1)/\W.cell? ⟨g,3,none⟩=some (.slice A2 N2 a2)):=hU (fun W g h=>by
  rw[hcs] at h
  rw[hN0,hN1,hN2]
  exact⟨h.cell 0,h.cell 1,h.cell 2,h.cell 3⟩)
 have BR:Hid (∀(W:World) (g:Nat),Blk W g 37 cs.toArray->W.rangeAt g 4 sv):=hU (fun W g h=>by
  rw[hcs] at h
  rw[hsv]
  intro j v hv
  have h2:=h.cell (4+j)
  rw[h2,<-hv]
  simp only[brkV,Qdw,List.getElem?_toArray]
  rw[Nat.add_comm 4 j]
  rfl)
 have SV9:=hU (show sv.length=9 by rw[hsv];rfl)
 rw[<-hcs] at LW CB
 rw[<-hcs]
 have HLH:=hU hlh
 have DE:=hU (show Qev b=if(lh.size=(N0:Int))/\(lh.taken=(N1:Int)) then 2 else if N2=400 then 3 else 0 by
  rw[Qev,hlh,hN0,hN1,hN2]
  have h1:((b.log.entries.length:Int)-(Qaw b.heads).size=0/\(b.receipts.length:Int)-(Qaw b.heads).taken=0)↔((Qaw b.heads).size=(b.log.entries.length:Int)/\(Qaw b.heads).taken=(b.receipts.length:Int)):=by omega
  have h2:(400<=b.heads.length)↔(b.heads.length=400):=by have:=sf.lh;omega
  simp only[h1,h2])
 have SC:=hU (show Qcw b=Qev b by rw[Qcw,hB];rfl)
 have HN2:=hU (show b.heads.length=N2 from hN2.symm)
 have LHB:=hU (show b.heads.length<=400 from sf.lh)
 clear s hk hB hp ff fl hfo hcs hlh hl1 hl2 hA7 ha7 hA8 ha8 e1 e2 m1 m2 hN0 hN1 hN2 hsv sf
 obtain⟨B1,B3,he⟩:=Qcq w cs.toArray #[.int .i64 0,.slice none 0 0,.slice none 0 0,.slice none 0 0,.int .i64 0,.slice none 0 0,.int .i64 0,.slice none 0 0,.int .i64 0,.int .i64 0,.string ⟨#[]⟩,.int .i64 0,.string ⟨#[]⟩] 37 37
 obtain⟨g1,hg1⟩:∃ g1,g1=w.heap.size:=⟨_,rfl⟩
 obtain⟨g3,hg3⟩:∃ g3,g3=w.heap.size+1:=⟨_,rfl⟩
 go_enter Tryz.func95,Tryz.ntmps95
 go_upto_region 1 with fail
 obtain⟨w3,hw3⟩:∃ w3,w3=(w.alloc (.cells cs.toArray 37)).alloc (.cells #[.int .i64 0,.slice none 0 0,.slice none 0 0,.slice none 0 0,.int .i64 0,.slice none 0 0,.int .i64 0,.slice none 0 0,.int .i64 0,.int .i64 0,.string ⟨#[]⟩,.int .i64 0,.string ⟨#[]⟩] 37):=⟨_,rfl⟩
 rw[<-hw3] at B1 B3 he
 rw[<-hw3]
 rw[<-hg3] at B3
 rw[<-hg1] at B1
 rw[<-hg3,<-hg1]
 have h13:g1<g3:=by omega
 have hw:w.heap.size<=g3:=by omega
 clear hw3 hg1 hg3
 have RX:=hU (Blk.range B1)
 go_wp2_with (refine wpList_load_mid rfl 37 _ rfl g1 0 rfl cs _ RX.out Tryz.underlying37 rfl (by rw[HL13.out];kernel_rfl) ?_)
 refine(LL.out _ he).mono ?_
 rintro e w4 ⟨rfl,h1⟩
 replace he:=he.next h1;replace B1:=B1.ext h1;replace B3:=B3.ext h1
 clear h1 RX LL
 go_upto_region 2 with fail
 have Q5:=Blk.new w4 33 #[.int .i64 lh.number,.int .i64 lh.size,.string lh.root,.int .i64 lh.taken,.string lh.takenRoot]
 have h1:=Ext.new (Below.refl w4.heap.size w4) (.cells #[.int .i64 lh.number,.int .i64 lh.size,.string lh.root,.int .i64 lh.taken,.string lh.takenRoot] 33)
 replace he:=he.next h1;replace B1:=B1.ext h1;replace B3:=B3.ext h1
 obtain⟨q5,hq5⟩:∃ q5,q5=w4.heap.size:=⟨_,rfl⟩
 rw[<-hq5] at Q5
 rw[<-hq5]
 clear h1 hq5
 generalize w4.alloc (.cells #[.int .i64 lh.number,.int .i64 lh.size,.string lh.root,.int .i64 lh.taken,.string lh.takenRoot] 33)=w5 at *
 obtain⟨x0,x1,x2,x3⟩:=BH.out _ _ B1
 obtain⟨r5,f5⟩:=Q5.rules
 by_cases cw:lh.size=(N0:Int)/\lh.taken=(N1:Int)
 · have E:=hU (show Qcw b=2 by rw[SC.out,DE.out,if_pos cw])
   have z1:(lh.size==(N0:Int))=true:=beq_iff_eq.2 cw.1
   have z2:(lh.taken==(N1:Int))=true:=beq_iff_eq.2 cw.2
   clear cw
   have hxa:=Ext.new (Below.refl w5.heap.size w5) (.cells #[] 50)
   have B3a:=B3.ext hxa;have hea:=he.next hxa
   have T4:=hU (B3a.there 0 13 (by simp))
   obtain⟨wz,hwz,hz,hx,ho⟩:∃ wz,wz=(w5.alloc (.cells #[] 50)).setCells g3 0 [.int .i64 0,.slice none 0 0,.slice none 0 0,.slice none 0 0,.int .i64 0,.slice none 0 0,.int .i64 0,.slice none 0 0,.int .i64 0,.int .i64 0,.string ⟨#[]⟩,.int .i64 0,.string ⟨#[]⟩]/\Blk wz g3 37 #[.int .i64 0,.slice none 0 0,.slice none 0 0,.slice none 0 0,.int .i64 0,.slice none 0 0,.int .i64 0,.slice none 0 0,.int .i64 0,.int .i64 0,.string ⟨#[]⟩,.int .i64 0,.string ⟨#[]⟩]/\Ext w wz/\wz.ownsRow w.heap.size 50 3 (.slice (some ⟨w5.heap.size,0,none⟩) 0 0) 0 []:=⟨_,rfl,Qas B3a [.int .i64 0,.slice none 0 0,.slice none 0 0,.slice none 0 0,.int .i64 0,.slice none 0 0,.int .i64 0,.slice none 0 0,.int .i64 0,.int .i64 0,.string ⟨#[]⟩,.int .i64 0,.string ⟨#[]⟩] rfl,Qaa hw [.int .i64 0,.slice none 0 0,.slice none 0 0,.slice none 0 0,.int .i64 0,.slice none 0 0,.int .i64 0,.slice none 0 0,.int .i64 0,.int .i64 0,.string ⟨#[]⟩,.int .i64 0,.string ⟨#[]⟩] 0 _ hea,Qa2 (Qbd w5 50 3) B3.lt he.size [.int .i64 0,.slice none 0 0,.slice none 0 0,.slice none 0 0,.int .i64 0,.slice none 0 0,.int .i64 0,.slice none 0 0,.int .i64 0,.int .i64 0,.string ⟨#[]⟩,.int .i64 0,.string ⟨#[]⟩] 0⟩
   have HW:=hU hwz;have Z4:=hU hz;have X4:=hU hx;have OZ:=hU ho
   clear hwz hz hx ho hxa B3a hea B3 he
   go_wp2_with (refine Qac rfl 37 _ _ rfl rfl g3 0 [.int .i64 0,.slice none 0 0,.slice none 0 0,.slice none 0 0,.int .i64 0,.slice none 0 0,.int .i64 0,.slice none 0 0,.int .i64 0,.int .i64 0,.string ⟨#[]⟩,.int .i64 0,.string ⟨#[]⟩] rfl rfl T4.out (by kernel_rfl) (by rfl) ?_;rw[<-HW.out])
   exact Qd6 rfl rfl Z4.out Tryz.underlying37 rfl (by kernel_rfl) rfl (Qtz E.out (by decide) rfl OZ.out X4.out)
 have NW:=hU cw
 go_cut [28] from 14 to 28 (fun vx wx=>vx=.bool false/\wx=w5)
 case first=>
  by_cases c0:lh.size=(N0:Int)
  · have z1:(lh.size==(N0:Int))=true:=beq_iff_eq.2 c0
    have z2:(lh.taken==(N1:Int))=false:=beq_false_of_ne (fun h=>cw ⟨c0,h⟩)
    clear c0
    go_wp2_with fail
    go_meet
    case rel=>exact⟨rfl,rfl⟩
  · have z1:(lh.size==(N0:Int))=false:=beq_false_of_ne c0
    go_wp2_with fail
    go_meet
    case rel=>exact⟨rfl,rfl⟩
 case rest=>
 obtain⟨rfl,hwx⟩:=hcut
 subst hwx
 clear cw
 obtain⟨wc,rfl⟩:=Qin Q5
 by_cases p4:N2=400
 · have E:=hU (show Qcw b=3 by rw[SC.out,DE.out,if_neg NW.out,if_pos p4])
   have g0:((N2:Int)==400)=true:=beq_iff_eq.2 (by omega)
   have P4:=hU p4
   clear p4
   have hxa:=Ext.new (Below.refl wc.heap.size wc) (.cells #[] 50)
   have B3a:=B3.ext hxa;have hea:=he.next hxa
   have T4:=hU (B3a.there 0 13 (by simp))
   obtain⟨wz,hwz,hz,hx,ho⟩:∃ wz,wz=(wc.alloc (.cells #[] 50)).setCells g3 0 [.int .i64 0,.slice none 0 0,.slice none 0 0,.slice none 0 0,.int .i64 0,.slice none 0 0,.int .i64 0,.slice none 0 0,.int .i64 0,.int .i64 0,.string ⟨#[]⟩,.int .i64 0,.string ⟨#[]⟩]/\Blk wz g3 37 #[.int .i64 0,.slice none 0 0,.slice none 0 0,.slice none 0 0,.int .i64 0,.slice none 0 0,.int .i64 0,.slice none 0 0,.int .i64 0,.int .i64 0,.string ⟨#[]⟩,.int .i64 0,.string ⟨#[]⟩]/\Ext w wz/\wz.ownsRow w.heap.size 50 3 (.slice (some ⟨wc.heap.size,0,none⟩) 0 0) 0 []:=⟨_,rfl,Qas B3a [.int .i64 0,.slice none 0 0,.slice none 0 0,.slice none 0 0,.int .i64 0,.slice none 0 0,.int .i64 0,.slice none 0 0,.int .i64 0,.int .i64 0,.string ⟨#[]⟩,.int .i64 0,.string ⟨#[]⟩] rfl,Qaa hw [.int .i64 0,.slice none 0 0,.slice none 0 0,.slice none 0 0,.int .i64 0,.slice none 0 0,.int .i64 0,.slice none 0 0,.int .i64 0,.int .i64 0,.string ⟨#[]⟩,.int .i64 0,.string ⟨#[]⟩] 0 _ hea,Qa2 (Qbd wc 50 3) B3.lt he.size [.int .i64 0,.slice none 0 0,.slice none 0 0,.slice none 0 0,.int .i64 0,.slice none 0 0,.int .i64 0,.slice none 0 0,.int .i64 0,.int .i64 0,.string ⟨#[]⟩,.int .i64 0,.string ⟨#[]⟩] 0⟩
   have HW:=hU hwz;have Z4:=hU hz;have X4:=hU hx;have OZ:=hU ho
   clear hwz hz hx ho hxa B3a hea B3 he
   go_wp2_with (refine Qac rfl 37 _ _ rfl rfl g3 0 [.int .i64 0,.slice none 0 0,.slice none 0 0,.slice none 0 0,.int .i64 0,.slice none 0 0,.int .i64 0,.slice none 0 0,.int .i64 0,.int .i64 0,.string ⟨#[]⟩,.int .i64 0,.string ⟨#[]⟩] rfl rfl T4.out (by kernel_rfl) (by rfl) ?_;rw[<-HW.out])
   exact Qd6 rfl rfl Z4.out Tryz.underlying37 rfl (by kernel_rfl) rfl (Qtz E.out (by decide) rfl OZ.out X4.out)
 have E:=hU (show Qcw b=0 by rw[SC.out,DE.out,if_neg NW.out,if_neg p4])
 have g0:((N2:Int)==400)=false:=beq_false_of_ne (by omega)
 have H400:=hU (show b.heads.length<400 by have h1:=HN2.out;have h2:=LHB.out;omega)
 have g3q:g3<wc.heap.size:=B3.lt
 have g1q:g1<wc.heap.size:=B1.lt
 have q5q:q5<wc.heap.size:=Q5.lt
 go_upto_region 6 with fail
 clear r5 f5 x0 x1 x2 x3 p4 g0
 go_cut [6] (fun vq wx=>∃(q:Nat) (V3:Option Addr) (v3:Nat) (V4:Option Addr) (v4:Nat),vq=.pointer (some ⟨q,0,none⟩)/\Blk wx q 35 (Qdw (Qa6 b) V3 v3 V4 v4).toArray/\RowT w.heap.size wx (.slice V3 (Qa6 b).leaves.peaks.length v3) (Qa6 b).leaves.peaks/\RowT w.heap.size wx (.slice V4 (Qa6 b).taken.peaks.length v4) (Qa6 b).taken.peaks/\(∀ x,(Value.slice V3 (Qa6 b).leaves.peaks.length v3).ownBlock=some x->(Value.slice V4 (Qa6 b).taken.peaks.length v4).ownBlock≠some x)/\wc.heap.size<=q/\Blk wx g1 37 cs.toArray/\Ext wc wx)
 case first=>
  refine wp_region_held_drew (S:=fun w'=>Blk w' g1 37 cs.toArray/\Blk w' q5 33 #[.int .i64 lh.number,.int .i64 lh.size,.string lh.root,.int .i64 lh.taken,.string lh.takenRoot]/\Ext wc w') (by kernel_rfl) ⟨B1.drew,Q5.drew,(Below.refl _ _).drew⟩ (fun hH=>?_)
  have RFA:=RF1.out
  have RFB:=RF2.out
  clear B1 Q5
  generalize wc.drew=w0 at *
  refine tk 0 (.pointer (some ⟨g1,0,none⟩)) (some 38) hH ?_
  try simp only[zA]
  refine Qah 1 (.int .i64 b.width) (some 39) rfl rfl (by kernel_rfl) (Or.inl ⟨by rfl,?ys2⟩) hH ?rs2
  case ys2=>intro w' hS';obtain⟨s0,s1,s2⟩:=hS';obtain⟨x0,x1,x2,x3⟩:=BH.out _ _ s0;obtain⟨r1,f1⟩:=s1.rules;go_simp;try with_reducible rfl
  try simp only[zA]
  refine tk 2 (.pointer (some ⟨g1,4,none⟩)) (some 40) hH ?_
  try simp only[zA]
  refine tk 4 (.pointer (some ⟨g1,0,none⟩)) (some 42) hH ?_
  try simp only[zA]
  refine Qah 5 (.int .i64 b.width) (some 43) rfl rfl (by kernel_rfl) (Or.inl ⟨by rfl,?ys5⟩) hH ?rs5
  case ys5=>intro w' hS';obtain⟨s0,s1,s2⟩:=hS';obtain⟨x0,x1,x2,x3⟩:=BH.out _ _ s0;obtain⟨r1,f1⟩:=s1.rules;go_simp;try with_reducible rfl
  try simp only[zA]
  refine tk 6 (.pointer (some ⟨g1,1,none⟩)) (some 44) hH ?_
  try simp only[zA]
  refine tk 7 (.pointer (some ⟨g1,1,none⟩)) (some 45) hH ?_
  try simp only[zA]
  refine Qah 8 (.slice A0 N0 a0) (some 46) rfl rfl (by kernel_rfl) (Or.inl ⟨by rfl,?ys8⟩) hH ?rs8
  case ys8=>intro w' hS';obtain⟨s0,s1,s2⟩:=hS';obtain⟨x0,x1,x2,x3⟩:=BH.out _ _ s0;obtain⟨r1,f1⟩:=s1.rules;go_simp;try with_reducible rfl
  try simp only[zA]
  refine tk 9 (.pointer (some ⟨q5,1,none⟩)) (some 47) hH ?_
  try simp only[zA]
  refine Qah 10 (.int .i64 lh.size) (some 48) rfl rfl (by kernel_rfl) (Or.inl ⟨by rfl,?ys10⟩) hH ?rs10
  case ys10=>intro w' hS';obtain⟨s0,s1,s2⟩:=hS';obtain⟨x0,x1,x2,x3⟩:=BH.out _ _ s0;obtain⟨r1,f1⟩:=s1.rules;go_simp;try with_reducible rfl
  try simp only[zA]
  refine Qah 11 (.slice A7 l1.length a7) (some 49) rfl rfl (by kernel_rfl) (Or.inl ⟨by rfl,?ys11⟩) hH ?rs11
  case ys11=>intro w' hS';obtain⟨s0,s1,s2⟩:=hS';obtain⟨x0,x1,x2,x3⟩:=BH.out _ _ s0;obtain⟨r1,f1⟩:=s1.rules;go_simp;try with_reducible rfl
  try simp only[zA]
  refine tk 13 (.pointer (some ⟨g1,0,none⟩)) (some 51) hH ?_
  try simp only[zA]
  refine Qah 14 (.int .i64 b.width) (some 52) rfl rfl (by kernel_rfl) (Or.inl ⟨by rfl,?ys13⟩) hH ?rs13
  case ys13=>intro w' hS';obtain⟨s0,s1,s2⟩:=hS';obtain⟨x0,x1,x2,x3⟩:=BH.out _ _ s0;obtain⟨r1,f1⟩:=s1.rules;go_simp;try with_reducible rfl
  try simp only[zA]
  refine tk 15 (.pointer (some ⟨g1,2,none⟩)) (some 53) hH ?_
  try simp only[zA]
  refine Qah 16 (.slice A1 N1 a1) (some 54) rfl rfl (by kernel_rfl) (Or.inl ⟨by rfl,?ys15⟩) hH ?rs15
  case ys15=>intro w' hS';obtain⟨s0,s1,s2⟩:=hS';obtain⟨x0,x1,x2,x3⟩:=BH.out _ _ s0;obtain⟨r1,f1⟩:=s1.rules;go_simp;try with_reducible rfl
  try simp only[zA]
  refine tk 17 (.pointer (some ⟨q5,3,none⟩)) (some 55) hH ?_
  try simp only[zA]
  refine Qah 18 (.int .i64 lh.taken) (some 56) rfl rfl (by kernel_rfl) (Or.inl ⟨by rfl,?ys17⟩) hH ?rs17
  case ys17=>intro w' hS';obtain⟨s0,s1,s2⟩:=hS';obtain⟨x0,x1,x2,x3⟩:=BH.out _ _ s0;obtain⟨r1,f1⟩:=s1.rules;go_simp;try with_reducible rfl
  try simp only[zA]
  refine Qah 19 (.slice A8 l2.length a8) (some 57) rfl rfl (by kernel_rfl) (Or.inl ⟨by rfl,?ys18⟩) hH ?rs18
  case ys18=>intro w' hS';obtain⟨s0,s1,s2⟩:=hS';obtain⟨x0,x1,x2,x3⟩:=BH.out _ _ s0;obtain⟨r1,f1⟩:=s1.rules;go_simp;try with_reducible rfl
  try simp only[zA]
  refine wpAnyH_take (i:=3) (oi:=_) (v:=_) rfl (by kernel_rfl) (by kernel_rfl) (by kernel_rfl) (fun _ _ _ h=>h) (yieldsIf_load_mid (by rfl) 35 _ rfl g1 4 rfl sv _ (fun w' h=>BR.out _ _ h.1) Tryz.underlying35 rfl (by rw[SV9.out];kernel_rfl)) hH ?_
  try simp only[zB]
  refine twoH 12 26 (oi:=_) (oj:=_) (some 50) (some 6) (by kernel_rfl) rfl rfl rfl rfl rfl rfl (fun K' hK=>?_) (fun K' hK=>?_)
  · skip
    refine⟨?_⟩
    rw[if_pos (by rfl)]
    go_simp
    refine(CH.out _ (he.next hH.2.2)).mono ?_
    rintro e wA ⟨vh,rfl,hr,h1⟩
    have hr1:=RowT.ofBase hr (he.next hH.2.2).size
    obtain⟨HA,ha,rfl,_⟩:=Qae hr
    have R_HA:=hU hr1
    clear hr hr1
    refine hK.out _ _ ⟨_,rfl⟩ (⟨hH.1.ext h1,hH.2.1.ext h1,hH.2.2.next h1⟩) (fun hH2=>?_)
    clear hK K' hH h1
    have hH:=hH2
    clear hH2
    try simp only[zB]
    refine twoH 20 26 (oi:=_) (oj:=_) (some 58) (some 6) (by kernel_rfl) rfl rfl rfl rfl rfl rfl (fun K' hK=>?_) (fun K' hK=>?_)
    · skip
      refine⟨?_⟩
      rw[if_pos (by rfl)]
      go_simp
      refine(CT.out _ (he.next hH.2.2)).mono ?_
      rintro e wB ⟨vh,rfl,hr,h1⟩
      replace R_HA:=hU (RowT.ext R_HA.out h1)
      have hr1:=RowT.ofBase hr (he.next hH.2.2).size
      obtain⟨HB,hb,rfl,_⟩:=Qae hr
      have R_HB:=hU hr1
      clear hr hr1
      refine hK.out _ _ ⟨_,rfl⟩ (⟨hH.1.ext h1,hH.2.1.ext h1,hH.2.2.next h1⟩) (fun hH2=>?_)
      clear hK K' hH h1
      have hH:=hH2
      clear hH2
      try simp only[zB]
      refine twoH 21 26 (oi:=_) (oj:=_) (some 59) (some 6) (by kernel_rfl) rfl rfl rfl rfl rfl rfl (fun K' hK=>?_) (fun K' hK=>?_)
      · skip
        refine⟨?_⟩
        rw[if_pos (by rfl)]
        go_simp
        refine(CM.out _ (he.next hH.2.2) H400.out _ _ _ _ R_HA.out R_HB.out).mono ?_
        rintro e wC_ ⟨m,V3,v3,V4,v4,rfl,p1,p2,ap,h1⟩
        replace R_HA:=hU (RowT.ext R_HA.out h1)
        replace R_HB:=hU (RowT.ext R_HB.out h1)
        have P1:=hU (RowT.ofBase p1 (he.next hH.2.2).size)
        have P2:=hU (RowT.ofBase p2 (he.next hH.2.2).size)
        have AP:=hU ap
        clear p1 p2 ap
        refine hK.out _ _ ⟨_,rfl⟩ (⟨hH.1.ext h1,hH.2.1.ext h1,hH.2.2.next h1⟩) (fun hH2=>?_)
        clear hK K' hH h1
        have hH:=hH2
        clear hH2
        try simp only[zB]
        refine Qah 22 (.tuple #[.agg (Qdw (Qa6 b) V3 v3 V4 v4).toArray,.int .i64 m,.int .i64 0]) (some 37) rfl rfl (by kernel_rfl) (Or.inl ⟨by rfl,?ysaaa1⟩) hH ?rsaaa1
        case ysaaa1=>intro w' hS';obtain⟨s0,s1,s2⟩:=hS';obtain⟨x0,x1,x2,x3⟩:=BH.out _ _ s0;obtain⟨r1,f1⟩:=s1.rules;go_simp;try with_reducible rfl
        try simp only[zA]
        refine Qah 23 (.agg (Qdw (Qa6 b) V3 v3 V4 v4).toArray) (some 60) rfl rfl (by kernel_rfl) (Or.inl ⟨by rfl,?ysaaa2⟩) hH ?rsaaa2
        case ysaaa2=>intro w' hS';obtain⟨s0,s1,s2⟩:=hS';obtain⟨x0,x1,x2,x3⟩:=BH.out _ _ s0;obtain⟨r1,f1⟩:=s1.rules;go_simp;try with_reducible rfl
        try simp only[zA]
        refine Qah 24 (.int .i64 m) (some 61) rfl rfl (by kernel_rfl) (Or.inl ⟨by rfl,?ysaaa3⟩) hH ?rsaaa3
        case ysaaa3=>intro w' hS';obtain⟨s0,s1,s2⟩:=hS';obtain⟨x0,x1,x2,x3⟩:=BH.out _ _ s0;obtain⟨r1,f1⟩:=s1.rules;go_simp;try with_reducible rfl
        try simp only[zA]
        refine Qah 25 (.int .i64 0) (some 62) rfl rfl (by kernel_rfl) (Or.inl ⟨by rfl,?ysaaa4⟩) hH ?rsaaa4
        case ysaaa4=>intro w' hS';obtain⟨s0,s1,s2⟩:=hS';obtain⟨x0,x1,x2,x3⟩:=BH.out _ _ s0;obtain⟨r1,f1⟩:=s1.rules;go_simp;try with_reducible rfl
        try simp only[zA]
        refine oneH 26 (oi:=_) (some 6) (by kernel_rfl) rfl rfl rfl (fun K' hK=>?_)
        have h1:=Ext.new (Below.refl wC_.heap.size wC_) (.cells #[.int .i64 0,.slice none 0 0,.int .i64 0,.slice none 0 0,.int .i64 0,.int .i64 0,.string ⟨#[]⟩,.int .i64 0,.string ⟨#[]⟩] 35)
        obtain⟨q,hq⟩:∃ q,q=wC_.heap.size:=⟨_,rfl⟩
        have bq:=Blk.new wC_ 35 #[.int .i64 0,.slice none 0 0,.int .i64 0,.slice none 0 0,.int .i64 0,.int .i64 0,.string ⟨#[]⟩,.int .i64 0,.string ⟨#[]⟩]
        rw[<-hq] at bq
        have QB:=hU (show wc.heap.size<=q by have:=hH.2.2.size;omega)
        obtain⟨wF,hu_,h1,bq⟩:∃ u,u=wC_.alloc (.cells #[.int .i64 0,.slice none 0 0,.int .i64 0,.slice none 0 0,.int .i64 0,.int .i64 0,.string ⟨#[]⟩,.int .i64 0,.string ⟨#[]⟩] 35)/\Ext wC_ u/\Blk u q 35 #[.int .i64 0,.slice none 0 0,.int .i64 0,.slice none 0 0,.int .i64 0,.int .i64 0,.string ⟨#[]⟩,.int .i64 0,.string ⟨#[]⟩]:=⟨_,rfl,h1,bq⟩
        have HUU:=hU hu_;have HQQ:=hU hq
        clear hu_ hq
        refine⟨?_⟩
        rw[if_pos (by rfl)]
        go_simp
        rw[<-HUU.out,<-HQQ.out]
        replace R_HA:=hU (RowT.ext R_HA.out h1)
        replace R_HB:=hU (RowT.ext R_HB.out h1)
        replace P1:=hU (RowT.ext P1.out h1)
        replace P2:=hU (RowT.ext P2.out h1)
        have BQ:=hU bq
        clear bq
        refine hK.out _ _ ⟨_,rfl⟩ (⟨hH.1.ext h1,hH.2.1.ext h1,hH.2.2.next h1⟩) (fun hH2=>?_)
        clear hK K' hH h1 HUU HQQ
        have hH:=hH2
        clear hH2
        try simp only[zB]
        obtain⟨vs,hvs⟩:∃ vs,vs=Qdw (Qa6 b) V3 v3 V4 v4:=⟨_,rfl⟩
        have VS9:=hU (show vs.length=9 by rw[hvs];rfl)
        have VS1:=hU (show vs.all (·.oneCell')=true by rw[hvs];rfl)
        have HVS:=hU hvs
        rw[<-hvs]
        clear hvs
        have qb:=QB.out
        have Tq:=hU (show World.there wF q 0 vs.length by rw[VS9.out];exact BQ.out.there 0 9 (by simp))
        have bz:=Qas BQ.out vs (by rw[VS9.out];rfl)
        have p1z:=Qa1 P1.out BQ.out (by decide) vs 0
        have p2z:=Qa1 P2.out BQ.out (by decide) vs 0
        have b1z:Blk (World.setCells wF q 0 vs) g1 37 cs.toArray:=hH.1.farCells (by omega) vs 0
        have b5z:Blk (World.setCells wF q 0 vs) q5 33 #[.int .i64 lh.number,.int .i64 lh.size,.string lh.root,.int .i64 lh.taken,.string lh.takenRoot]:=hH.2.1.farCells (by omega) vs 0
        have e5z:=Qaa (W:=wc) QB.out vs 0 _ hH.2.2
        refine oneH 27 (oi:=_) none (by kernel_rfl) rfl rfl rfl (fun K' hK=>?_)
        refine⟨?_⟩
        rw[if_pos (by rfl)]
        refine Qao 35 _ _ rfl rfl q 0 vs rfl rfl Tq.out (by rw[VS9.out];kernel_rfl) VS1.out ?_
        refine hK.out _ _ ⟨undef,rfl⟩ ⟨b1z,b5z,e5z⟩ (fun hH2=>?_)
        clear hK K' hH Tq
        have hH:=hH2
        clear hH2
        try simp only[zB]
        refine Qah 28 (.int .i64 m) (some 7) rfl rfl (by kernel_rfl) (Or.inl ⟨by rfl,?ysaaa5⟩) hH ?rsaaa5
        case ysaaa5=>intro w' hS';obtain⟨s0,s1,s2⟩:=hS';obtain⟨x0,x1,x2,x3⟩:=BH.out _ _ s0;obtain⟨r1,f1⟩:=s1.rules;go_simp;try with_reducible rfl
        try simp only[zA]
        refine Qah 29 (.int .i64 0) (some 8) rfl rfl (by kernel_rfl) (Or.inl ⟨by rfl,?ysaaa6⟩) hH ?rsaaa6
        case ysaaa6=>intro w' hS';obtain⟨s0,s1,s2⟩:=hS';obtain⟨x0,x1,x2,x3⟩:=BH.out _ _ s0;obtain⟨r1,f1⟩:=s1.rules;go_simp;try with_reducible rfl
        try simp only[zA]
        refine wpAnyH_done (by kernel_rfl) ?_ _
        (try go_wp2_with fail)
        go_meet
        case rel=>exact⟨q,V3,v3,V4,v4,rfl,by rw[<-HVS.out];exact bz,p1z,p2z,AP.out,QB.out,hH.1,hH.2.2⟩
      · skip
        have h1:=Ext.new (Below.refl wB.heap.size wB) (.cells #[.int .i64 0,.slice none 0 0,.int .i64 0,.slice none 0 0,.int .i64 0,.int .i64 0,.string ⟨#[]⟩,.int .i64 0,.string ⟨#[]⟩] 35)
        obtain⟨q,hq⟩:∃ q,q=wB.heap.size:=⟨_,rfl⟩
        have bq:=Blk.new wB 35 #[.int .i64 0,.slice none 0 0,.int .i64 0,.slice none 0 0,.int .i64 0,.int .i64 0,.string ⟨#[]⟩,.int .i64 0,.string ⟨#[]⟩]
        rw[<-hq] at bq
        have QB:=hU (show wc.heap.size<=q by have:=hH.2.2.size;omega)
        obtain⟨wQ,hu_,h1,bq⟩:∃ u,u=wB.alloc (.cells #[.int .i64 0,.slice none 0 0,.int .i64 0,.slice none 0 0,.int .i64 0,.int .i64 0,.string ⟨#[]⟩,.int .i64 0,.string ⟨#[]⟩] 35)/\Ext wB u/\Blk u q 35 #[.int .i64 0,.slice none 0 0,.int .i64 0,.slice none 0 0,.int .i64 0,.int .i64 0,.string ⟨#[]⟩,.int .i64 0,.string ⟨#[]⟩]:=⟨_,rfl,h1,bq⟩
        have HUU:=hU hu_;have HQQ:=hU hq
        clear hu_ hq
        refine⟨?_⟩
        rw[if_pos (by rfl)]
        go_simp
        rw[<-HUU.out,<-HQQ.out]
        replace R_HA:=hU (RowT.ext R_HA.out h1)
        replace R_HB:=hU (RowT.ext R_HB.out h1)
        have BQ:=hU bq
        clear bq
        refine hK.out _ _ ⟨_,rfl⟩ (⟨hH.1.ext h1,hH.2.1.ext h1,hH.2.2.next h1⟩) (fun hH2=>?_)
        clear hK K' hH h1 HUU HQQ
        have hH:=hH2
        clear hH2
        try simp only[zB]
        refine oneH 21 (oi:=_) (some 59) (by kernel_rfl) rfl rfl rfl (fun K' hK=>?_)
        refine⟨?_⟩
        rw[if_pos (by rfl)]
        go_simp
        refine(CM.out _ (he.next hH.2.2) H400.out _ _ _ _ R_HA.out R_HB.out).mono ?_
        rintro e wC_ ⟨m,V3,v3,V4,v4,rfl,p1,p2,ap,h1⟩
        replace R_HA:=hU (RowT.ext R_HA.out h1)
        replace R_HB:=hU (RowT.ext R_HB.out h1)
        replace BQ:=hU (BQ.out.ext h1)
        have P1:=hU (RowT.ofBase p1 (he.next hH.2.2).size)
        have P2:=hU (RowT.ofBase p2 (he.next hH.2.2).size)
        have AP:=hU ap
        clear p1 p2 ap
        refine hK.out _ _ ⟨_,rfl⟩ (⟨hH.1.ext h1,hH.2.1.ext h1,hH.2.2.next h1⟩) (fun hH2=>?_)
        clear hK K' hH h1
        have hH:=hH2
        clear hH2
        try simp only[zB]
        refine Qah 22 (.tuple #[.agg (Qdw (Qa6 b) V3 v3 V4 v4).toArray,.int .i64 m,.int .i64 0]) (some 37) rfl rfl (by kernel_rfl) (Or.inl ⟨by rfl,?ysaabc1⟩) hH ?rsaabc1
        case ysaabc1=>intro w' hS';obtain⟨s0,s1,s2⟩:=hS';obtain⟨x0,x1,x2,x3⟩:=BH.out _ _ s0;obtain⟨r1,f1⟩:=s1.rules;go_simp;try with_reducible rfl
        try simp only[zA]
        refine Qah 23 (.agg (Qdw (Qa6 b) V3 v3 V4 v4).toArray) (some 60) rfl rfl (by kernel_rfl) (Or.inl ⟨by rfl,?ysaabc2⟩) hH ?rsaabc2
        case ysaabc2=>intro w' hS';obtain⟨s0,s1,s2⟩:=hS';obtain⟨x0,x1,x2,x3⟩:=BH.out _ _ s0;obtain⟨r1,f1⟩:=s1.rules;go_simp;try with_reducible rfl
        try simp only[zA]
        refine Qah 24 (.int .i64 m) (some 61) rfl rfl (by kernel_rfl) (Or.inl ⟨by rfl,?ysaabc3⟩) hH ?rsaabc3
        case ysaabc3=>intro w' hS';obtain⟨s0,s1,s2⟩:=hS';obtain⟨x0,x1,x2,x3⟩:=BH.out _ _ s0;obtain⟨r1,f1⟩:=s1.rules;go_simp;try with_reducible rfl
        try simp only[zA]
        refine Qah 25 (.int .i64 0) (some 62) rfl rfl (by kernel_rfl) (Or.inl ⟨by rfl,?ysaabc4⟩) hH ?rsaabc4
        case ysaabc4=>intro w' hS';obtain⟨s0,s1,s2⟩:=hS';obtain⟨x0,x1,x2,x3⟩:=BH.out _ _ s0;obtain⟨r1,f1⟩:=s1.rules;go_simp;try with_reducible rfl
        try simp only[zA]
        obtain⟨vs,hvs⟩:∃ vs,vs=Qdw (Qa6 b) V3 v3 V4 v4:=⟨_,rfl⟩
        have VS9:=hU (show vs.length=9 by rw[hvs];rfl)
        have VS1:=hU (show vs.all (·.oneCell')=true by rw[hvs];rfl)
        have HVS:=hU hvs
        rw[<-hvs]
        clear hvs
        have qb:=QB.out
        have Tq:=hU (show World.there wC_ q 0 vs.length by rw[VS9.out];exact BQ.out.there 0 9 (by simp))
        have bz:=Qas BQ.out vs (by rw[VS9.out];rfl)
        have p1z:=Qa1 P1.out BQ.out (by decide) vs 0
        have p2z:=Qa1 P2.out BQ.out (by decide) vs 0
        have b1z:Blk (World.setCells wC_ q 0 vs) g1 37 cs.toArray:=hH.1.farCells (by omega) vs 0
        have b5z:Blk (World.setCells wC_ q 0 vs) q5 33 #[.int .i64 lh.number,.int .i64 lh.size,.string lh.root,.int .i64 lh.taken,.string lh.takenRoot]:=hH.2.1.farCells (by omega) vs 0
        have e5z:=Qaa (W:=wc) QB.out vs 0 _ hH.2.2
        refine oneH 27 (oi:=_) none (by kernel_rfl) rfl rfl rfl (fun K' hK=>?_)
        refine⟨?_⟩
        rw[if_pos (by rfl)]
        refine Qao 35 _ _ rfl rfl q 0 vs rfl rfl Tq.out (by rw[VS9.out];kernel_rfl) VS1.out ?_
        refine hK.out _ _ ⟨undef,rfl⟩ ⟨b1z,b5z,e5z⟩ (fun hH2=>?_)
        clear hK K' hH Tq
        have hH:=hH2
        clear hH2
        try simp only[zB]
        refine Qah 28 (.int .i64 m) (some 7) rfl rfl (by kernel_rfl) (Or.inl ⟨by rfl,?ysaabc5⟩) hH ?rsaabc5
        case ysaabc5=>intro w' hS';obtain⟨s0,s1,s2⟩:=hS';obtain⟨x0,x1,x2,x3⟩:=BH.out _ _ s0;obtain⟨r1,f1⟩:=s1.rules;go_simp;try with_reducible rfl
        try simp only[zA]
        refine Qah 29 (.int .i64 0) (some 8) rfl rfl (by kernel_rfl) (Or.inl ⟨by rfl,?ysaabc6⟩) hH ?rsaabc6
        case ysaabc6=>intro w' hS';obtain⟨s0,s1,s2⟩:=hS';obtain⟨x0,x1,x2,x3⟩:=BH.out _ _ s0;obtain⟨r1,f1⟩:=s1.rules;go_simp;try with_reducible rfl
        try simp only[zA]
        refine wpAnyH_done (by kernel_rfl) ?_ _
        (try go_wp2_with fail)
        go_meet
        case rel=>exact⟨q,V3,v3,V4,v4,rfl,by rw[<-HVS.out];exact bz,p1z,p2z,AP.out,QB.out,hH.1,hH.2.2⟩
    · skip
      have h1:=Ext.new (Below.refl wA.heap.size wA) (.cells #[.int .i64 0,.slice none 0 0,.int .i64 0,.slice none 0 0,.int .i64 0,.int .i64 0,.string ⟨#[]⟩,.int .i64 0,.string ⟨#[]⟩] 35)
      obtain⟨q,hq⟩:∃ q,q=wA.heap.size:=⟨_,rfl⟩
      have bq:=Blk.new wA 35 #[.int .i64 0,.slice none 0 0,.int .i64 0,.slice none 0 0,.int .i64 0,.int .i64 0,.string ⟨#[]⟩,.int .i64 0,.string ⟨#[]⟩]
      rw[<-hq] at bq
      have QB:=hU (show wc.heap.size<=q by have:=hH.2.2.size;omega)
      obtain⟨wQ,hu_,h1,bq⟩:∃ u,u=wA.alloc (.cells #[.int .i64 0,.slice none 0 0,.int .i64 0,.slice none 0 0,.int .i64 0,.int .i64 0,.string ⟨#[]⟩,.int .i64 0,.string ⟨#[]⟩] 35)/\Ext wA u/\Blk u q 35 #[.int .i64 0,.slice none 0 0,.int .i64 0,.slice none 0 0,.int .i64 0,.int .i64 0,.string ⟨#[]⟩,.int .i64 0,.string ⟨#[]⟩]:=⟨_,rfl,h1,bq⟩
      have HUU:=hU hu_;have HQQ:=hU hq
      clear hu_ hq
      refine⟨?_⟩
      rw[if_pos (by rfl)]
      go_simp
      rw[<-HUU.out,<-HQQ.out]
      replace R_HA:=hU (RowT.ext R_HA.out h1)
      have BQ:=hU bq
      clear bq
      refine hK.out _ _ ⟨_,rfl⟩ (⟨hH.1.ext h1,hH.2.1.ext h1,hH.2.2.next h1⟩) (fun hH2=>?_)
      clear hK K' hH h1 HUU HQQ
      have hH:=hH2
      clear hH2
      try simp only[zB]
      refine oneH 20 (oi:=_) (some 58) (by kernel_rfl) rfl rfl rfl (fun K' hK=>?_)
      refine⟨?_⟩
      rw[if_pos (by rfl)]
      go_simp
      refine(CT.out _ (he.next hH.2.2)).mono ?_
      rintro e wB ⟨vh,rfl,hr,h1⟩
      replace R_HA:=hU (RowT.ext R_HA.out h1)
      replace BQ:=hU (BQ.out.ext h1)
      have hr1:=RowT.ofBase hr (he.next hH.2.2).size
      obtain⟨HB,hb,rfl,_⟩:=Qae hr
      have R_HB:=hU hr1
      clear hr hr1
      refine hK.out _ _ ⟨_,rfl⟩ (⟨hH.1.ext h1,hH.2.1.ext h1,hH.2.2.next h1⟩) (fun hH2=>?_)
      clear hK K' hH h1
      have hH:=hH2
      clear hH2
      try simp only[zB]
      refine oneH 21 (oi:=_) (some 59) (by kernel_rfl) rfl rfl rfl (fun K' hK=>?_)
      refine⟨?_⟩
      rw[if_pos (by rfl)]
      go_simp
      refine(CM.out _ (he.next hH.2.2) H400.out _ _ _ _ R_HA.out R_HB.out).mono ?_
      rintro e wC_ ⟨m,V3,v3,V4,v4,rfl,p1,p2,ap,h1⟩
      replace R_HA:=hU (RowT.ext R_HA.out h1)
      replace BQ:=hU (BQ.out.ext h1)
      replace R_HB:=hU (RowT.ext R_HB.out h1)
      have P1:=hU (RowT.ofBase p1 (he.next hH.2.2).size)
      have P2:=hU (RowT.ofBase p2 (he.next hH.2.2).size)
      have AP:=hU ap
      clear p1 p2 ap
      refine hK.out _ _ ⟨_,rfl⟩ (⟨hH.1.ext h1,hH.2.1.ext h1,hH.2.2.next h1⟩) (fun hH2=>?_)
      clear hK K' hH h1
      have hH:=hH2
      clear hH2
      try simp only[zB]
      refine Qah 22 (.tuple #[.agg (Qdw (Qa6 b) V3 v3 V4 v4).toArray,.int .i64 m,.int .i64 0]) (some 37) rfl rfl (by kernel_rfl) (Or.inl ⟨by rfl,?ysabcc1⟩) hH ?rsabcc1
      case ysabcc1=>intro w' hS';obtain⟨s0,s1,s2⟩:=hS';obtain⟨x0,x1,x2,x3⟩:=BH.out _ _ s0;obtain⟨r1,f1⟩:=s1.rules;go_simp;try with_reducible rfl
      try simp only[zA]
      refine Qah 23 (.agg (Qdw (Qa6 b) V3 v3 V4 v4).toArray) (some 60) rfl rfl (by kernel_rfl) (Or.inl ⟨by rfl,?ysabcc2⟩) hH ?rsabcc2
      case ysabcc2=>intro w' hS';obtain⟨s0,s1,s2⟩:=hS';obtain⟨x0,x1,x2,x3⟩:=BH.out _ _ s0;obtain⟨r1,f1⟩:=s1.rules;go_simp;try with_reducible rfl
      try simp only[zA]
      refine Qah 24 (.int .i64 m) (some 61) rfl rfl (by kernel_rfl) (Or.inl ⟨by rfl,?ysabcc3⟩) hH ?rsabcc3
      case ysabcc3=>intro w' hS';obtain⟨s0,s1,s2⟩:=hS';obtain⟨x0,x1,x2,x3⟩:=BH.out _ _ s0;obtain⟨r1,f1⟩:=s1.rules;go_simp;try with_reducible rfl
      try simp only[zA]
      refine Qah 25 (.int .i64 0) (some 62) rfl rfl (by kernel_rfl) (Or.inl ⟨by rfl,?ysabcc4⟩) hH ?rsabcc4
      case ysabcc4=>intro w' hS';obtain⟨s0,s1,s2⟩:=hS';obtain⟨x0,x1,x2,x3⟩:=BH.out _ _ s0;obtain⟨r1,f1⟩:=s1.rules;go_simp;try with_reducible rfl
      try simp only[zA]
      obtain⟨vs,hvs⟩:∃ vs,vs=Qdw (Qa6 b) V3 v3 V4 v4:=⟨_,rfl⟩
      have VS9:=hU (show vs.length=9 by rw[hvs];rfl)
      have VS1:=hU (show vs.all (·.oneCell')=true by rw[hvs];rfl)
      have HVS:=hU hvs
      rw[<-hvs]
      clear hvs
      have qb:=QB.out
      have Tq:=hU (show World.there wC_ q 0 vs.length by rw[VS9.out];exact BQ.out.there 0 9 (by simp))
      have bz:=Qas BQ.out vs (by rw[VS9.out];rfl)
      have p1z:=Qa1 P1.out BQ.out (by decide) vs 0
      have p2z:=Qa1 P2.out BQ.out (by decide) vs 0
      have b1z:Blk (World.setCells wC_ q 0 vs) g1 37 cs.toArray:=hH.1.farCells (by omega) vs 0
      have b5z:Blk (World.setCells wC_ q 0 vs) q5 33 #[.int .i64 lh.number,.int .i64 lh.size,.string lh.root,.int .i64 lh.taken,.string lh.takenRoot]:=hH.2.1.farCells (by omega) vs 0
      have e5z:=Qaa (W:=wc) QB.out vs 0 _ hH.2.2
      refine oneH 27 (oi:=_) none (by kernel_rfl) rfl rfl rfl (fun K' hK=>?_)
      refine⟨?_⟩
      rw[if_pos (by rfl)]
      refine Qao 35 _ _ rfl rfl q 0 vs rfl rfl Tq.out (by rw[VS9.out];kernel_rfl) VS1.out ?_
      refine hK.out _ _ ⟨undef,rfl⟩ ⟨b1z,b5z,e5z⟩ (fun hH2=>?_)
      clear hK K' hH Tq
      have hH:=hH2
      clear hH2
      try simp only[zB]
      refine Qah 28 (.int .i64 m) (some 7) rfl rfl (by kernel_rfl) (Or.inl ⟨by rfl,?ysabcc5⟩) hH ?rsabcc5
      case ysabcc5=>intro w' hS';obtain⟨s0,s1,s2⟩:=hS';obtain⟨x0,x1,x2,x3⟩:=BH.out _ _ s0;obtain⟨r1,f1⟩:=s1.rules;go_simp;try with_reducible rfl
      try simp only[zA]
      refine Qah 29 (.int .i64 0) (some 8) rfl rfl (by kernel_rfl) (Or.inl ⟨by rfl,?ysabcc6⟩) hH ?rsabcc6
      case ysabcc6=>intro w' hS';obtain⟨s0,s1,s2⟩:=hS';obtain⟨x0,x1,x2,x3⟩:=BH.out _ _ s0;obtain⟨r1,f1⟩:=s1.rules;go_simp;try with_reducible rfl
      try simp only[zA]
      refine wpAnyH_done (by kernel_rfl) ?_ _
      (try go_wp2_with fail)
      go_meet
      case rel=>exact⟨q,V3,v3,V4,v4,rfl,by rw[<-HVS.out];exact bz,p1z,p2z,AP.out,QB.out,hH.1,hH.2.2⟩
  · skip
    have h1:=Ext.new (Below.refl w0.heap.size w0) (.cells #[.int .i64 0,.slice none 0 0,.int .i64 0,.slice none 0 0,.int .i64 0,.int .i64 0,.string ⟨#[]⟩,.int .i64 0,.string ⟨#[]⟩] 35)
    obtain⟨q,hq⟩:∃ q,q=w0.heap.size:=⟨_,rfl⟩
    have bq:=Blk.new w0 35 #[.int .i64 0,.slice none 0 0,.int .i64 0,.slice none 0 0,.int .i64 0,.int .i64 0,.string ⟨#[]⟩,.int .i64 0,.string ⟨#[]⟩]
    rw[<-hq] at bq
    have QB:=hU (show wc.heap.size<=q by have:=hH.2.2.size;omega)
    obtain⟨wQ,hu_,h1,bq⟩:∃ u,u=w0.alloc (.cells #[.int .i64 0,.slice none 0 0,.int .i64 0,.slice none 0 0,.int .i64 0,.int .i64 0,.string ⟨#[]⟩,.int .i64 0,.string ⟨#[]⟩] 35)/\Ext w0 u/\Blk u q 35 #[.int .i64 0,.slice none 0 0,.int .i64 0,.slice none 0 0,.int .i64 0,.int .i64 0,.string ⟨#[]⟩,.int .i64 0,.string ⟨#[]⟩]:=⟨_,rfl,h1,bq⟩
    have HUU:=hU hu_;have HQQ:=hU hq
    clear hu_ hq
    refine⟨?_⟩
    rw[if_pos (by rfl)]
    go_simp
    rw[<-HUU.out,<-HQQ.out]
    have BQ:=hU bq
    clear bq
    refine hK.out _ _ ⟨_,rfl⟩ (⟨hH.1.ext h1,hH.2.1.ext h1,hH.2.2.next h1⟩) (fun hH2=>?_)
    clear hK K' hH h1 HUU HQQ
    have hH:=hH2
    clear hH2
    try simp only[zB]
    refine oneH 12 (oi:=_) (some 50) (by kernel_rfl) rfl rfl rfl (fun K' hK=>?_)
    refine⟨?_⟩
    rw[if_pos (by rfl)]
    go_simp
    refine(CH.out _ (he.next hH.2.2)).mono ?_
    rintro e wA ⟨vh,rfl,hr,h1⟩
    replace BQ:=hU (BQ.out.ext h1)
    have hr1:=RowT.ofBase hr (he.next hH.2.2).size
    obtain⟨HA,ha,rfl,_⟩:=Qae hr
    have R_HA:=hU hr1
    clear hr hr1
    refine hK.out _ _ ⟨_,rfl⟩ (⟨hH.1.ext h1,hH.2.1.ext h1,hH.2.2.next h1⟩) (fun hH2=>?_)
    clear hK K' hH h1
    have hH:=hH2
    clear hH2
    try simp only[zB]
    refine oneH 20 (oi:=_) (some 58) (by kernel_rfl) rfl rfl rfl (fun K' hK=>?_)
    refine⟨?_⟩
    rw[if_pos (by rfl)]
    go_simp
    refine(CT.out _ (he.next hH.2.2)).mono ?_
    rintro e wB ⟨vh,rfl,hr,h1⟩
    replace BQ:=hU (BQ.out.ext h1)
    replace R_HA:=hU (RowT.ext R_HA.out h1)
    have hr1:=RowT.ofBase hr (he.next hH.2.2).size
    obtain⟨HB,hb,rfl,_⟩:=Qae hr
    have R_HB:=hU hr1
    clear hr hr1
    refine hK.out _ _ ⟨_,rfl⟩ (⟨hH.1.ext h1,hH.2.1.ext h1,hH.2.2.next h1⟩) (fun hH2=>?_)
    clear hK K' hH h1
    have hH:=hH2
    clear hH2
    try simp only[zB]
    refine oneH 21 (oi:=_) (some 59) (by kernel_rfl) rfl rfl rfl (fun K' hK=>?_)
    refine⟨?_⟩
    rw[if_pos (by rfl)]
    go_simp
    refine(CM.out _ (he.next hH.2.2) H400.out _ _ _ _ R_HA.out R_HB.out).mono ?_
    rintro e wC_ ⟨m,V3,v3,V4,v4,rfl,p1,p2,ap,h1⟩
    replace BQ:=hU (BQ.out.ext h1)
    replace R_HA:=hU (RowT.ext R_HA.out h1)
    replace R_HB:=hU (RowT.ext R_HB.out h1)
    have P1:=hU (RowT.ofBase p1 (he.next hH.2.2).size)
    have P2:=hU (RowT.ofBase p2 (he.next hH.2.2).size)
    have AP:=hU ap
    clear p1 p2 ap
    refine hK.out _ _ ⟨_,rfl⟩ (⟨hH.1.ext h1,hH.2.1.ext h1,hH.2.2.next h1⟩) (fun hH2=>?_)
    clear hK K' hH h1
    have hH:=hH2
    clear hH2
    try simp only[zB]
    refine Qah 22 (.tuple #[.agg (Qdw (Qa6 b) V3 v3 V4 v4).toArray,.int .i64 m,.int .i64 0]) (some 37) rfl rfl (by kernel_rfl) (Or.inl ⟨by rfl,?ysbccc1⟩) hH ?rsbccc1
    case ysbccc1=>intro w' hS';obtain⟨s0,s1,s2⟩:=hS';obtain⟨x0,x1,x2,x3⟩:=BH.out _ _ s0;obtain⟨r1,f1⟩:=s1.rules;go_simp;try with_reducible rfl
    try simp only[zA]
    refine Qah 23 (.agg (Qdw (Qa6 b) V3 v3 V4 v4).toArray) (some 60) rfl rfl (by kernel_rfl) (Or.inl ⟨by rfl,?ysbccc2⟩) hH ?rsbccc2
    case ysbccc2=>intro w' hS';obtain⟨s0,s1,s2⟩:=hS';obtain⟨x0,x1,x2,x3⟩:=BH.out _ _ s0;obtain⟨r1,f1⟩:=s1.rules;go_simp;try with_reducible rfl
    try simp only[zA]
    refine Qah 24 (.int .i64 m) (some 61) rfl rfl (by kernel_rfl) (Or.inl ⟨by rfl,?ysbccc3⟩) hH ?rsbccc3
    case ysbccc3=>intro w' hS';obtain⟨s0,s1,s2⟩:=hS';obtain⟨x0,x1,x2,x3⟩:=BH.out _ _ s0;obtain⟨r1,f1⟩:=s1.rules;go_simp;try with_reducible rfl
    try simp only[zA]
    refine Qah 25 (.int .i64 0) (some 62) rfl rfl (by kernel_rfl) (Or.inl ⟨by rfl,?ysbccc4⟩) hH ?rsbccc4
    case ysbccc4=>intro w' hS';obtain⟨s0,s1,s2⟩:=hS';obtain⟨x0,x1,x2,x3⟩:=BH.out _ _ s0;obtain⟨r1,f1⟩:=s1.rules;go_simp;try with_reducible rfl
    try simp only[zA]
    obtain⟨vs,hvs⟩:∃ vs,vs=Qdw (Qa6 b) V3 v3 V4 v4:=⟨_,rfl⟩
    have VS9:=hU (show vs.length=9 by rw[hvs];rfl)
    have VS1:=hU (show vs.all (·.oneCell')=true by rw[hvs];rfl)
    have HVS:=hU hvs
    rw[<-hvs]
    clear hvs
    have qb:=QB.out
    have Tq:=hU (show World.there wC_ q 0 vs.length by rw[VS9.out];exact BQ.out.there 0 9 (by simp))
    have bz:=Qas BQ.out vs (by rw[VS9.out];rfl)
    have p1z:=Qa1 P1.out BQ.out (by decide) vs 0
    have p2z:=Qa1 P2.out BQ.out (by decide) vs 0
    have b1z:Blk (World.setCells wC_ q 0 vs) g1 37 cs.toArray:=hH.1.farCells (by omega) vs 0
    have b5z:Blk (World.setCells wC_ q 0 vs) q5 33 #[.int .i64 lh.number,.int .i64 lh.size,.string lh.root,.int .i64 lh.taken,.string lh.takenRoot]:=hH.2.1.farCells (by omega) vs 0
    have e5z:=Qaa (W:=wc) QB.out vs 0 _ hH.2.2
    refine oneH 27 (oi:=_) none (by kernel_rfl) rfl rfl rfl (fun K' hK=>?_)
    refine⟨?_⟩
    rw[if_pos (by rfl)]
    refine Qao 35 _ _ rfl rfl q 0 vs rfl rfl Tq.out (by rw[VS9.out];kernel_rfl) VS1.out ?_
    refine hK.out _ _ ⟨undef,rfl⟩ ⟨b1z,b5z,e5z⟩ (fun hH2=>?_)
    clear hK K' hH Tq
    have hH:=hH2
    clear hH2
    try simp only[zB]
    refine Qah 28 (.int .i64 m) (some 7) rfl rfl (by kernel_rfl) (Or.inl ⟨by rfl,?ysbccc5⟩) hH ?rsbccc5
    case ysbccc5=>intro w' hS';obtain⟨s0,s1,s2⟩:=hS';obtain⟨x0,x1,x2,x3⟩:=BH.out _ _ s0;obtain⟨r1,f1⟩:=s1.rules;go_simp;try with_reducible rfl
    try simp only[zA]
    refine Qah 29 (.int .i64 0) (some 8) rfl rfl (by kernel_rfl) (Or.inl ⟨by rfl,?ysbccc6⟩) hH ?rsbccc6
    case ysbccc6=>intro w' hS';obtain⟨s0,s1,s2⟩:=hS';obtain⟨x0,x1,x2,x3⟩:=BH.out _ _ s0;obtain⟨r1,f1⟩:=s1.rules;go_simp;try with_reducible rfl
    try simp only[zA]
    refine wpAnyH_done (by kernel_rfl) ?_ _
    (try go_wp2_with fail)
    go_meet
    case rel=>exact⟨q,V3,v3,V4,v4,rfl,by rw[<-HVS.out];exact bz,p1z,p2z,AP.out,QB.out,hH.1,hH.2.2⟩
 case rest=>
 obtain⟨q6,V3,v3,V4,v4,rfl,bq,p1,p2,ap,hq,B1n,h1⟩:=hcut
 obtain⟨w6,rfl⟩:=Qin bq
 obtain⟨hd,hhd⟩:∃ hd,hd=Qb4 b:=⟨_,rfl⟩
 obtain⟨vs,hvs⟩:∃ vs,vs=Qdw (Qa6 b) V3 v3 V4 v4:=⟨_,rfl⟩
 rw[<-hvs] at bq
 have VS9:=hU (show vs.length=9 by rw[hvs];rfl)
 have VS1:=hU (show vs.all (·.oneCell')=true by rw[hvs];rfl)
 have QH:Hid (∀ W:World,Blk W q6 35 vs.toArray->W.cell? ⟨q6,4,none⟩=some (.int .i64 hd.number)/\W.cell? ⟨q6,5,none⟩=some (.int .i64 hd.size)/\W.cell? ⟨q6,6,none⟩=some (.string hd.root)/\W.cell? ⟨q6,7,none⟩=some (.int .i64 hd.taken)/\W.cell? ⟨q6,8,none⟩=some (.string hd.takenRoot)):=hU (fun W h=>by
  rw[hvs] at h
  rw[hhd]
  exact⟨h.cell 4,h.cell 5,h.cell 6,h.cell 7,h.cell 8⟩)
 have HVS:=hU hvs;have HHD:=hU hhd
 have P1:=hU p1;have P2:=hU p2;have AP:=hU ap
 clear B1 Q5 hvs hhd p1 p2 ap RF1 RF2 CH CT CM BR SV9 H400
 have B1:=B1n
 clear B1n
 replace he:=he.next h1;replace B3:=B3.ext h1
 clear h1
 obtain⟨x0,x1,x2,x3⟩:=BH.out _ _ B1
 obtain⟨y4,y5,y6,y7,y8⟩:=QH.out _ bq
 go_wp2_with fail
 refine(Qht b.width hd _).mono ?_
 rintro e w7 ⟨rfl,h1⟩
 replace he:=he.next h1;replace B1:=B1.ext h1;replace B3:=B3.ext h1;replace bq:=bq.ext h1
 replace P1:=hU (RowT.ext P1.out h1);replace P2:=hU (RowT.ext P2.out h1)
 clear h1 x0 x1 x2 x3 y4 y5 y6 y7 y8
 obtain⟨tx,htx⟩:∃ tx,tx=Qa4 b.width hd:=⟨_,rfl⟩
 rw[<-htx]
 have HTX:=hU (show tx=Qa4 b.width (Qb4 b) by rw[htx,HHD.out])
 clear htx
 have RX:=hU (Blk.range B1)
 go_wp2_with (refine wpList_load_mid rfl 37 _ rfl g1 0 rfl cs _ RX.out Tryz.underlying37 rfl (by rw[HL13.out];kernel_rfl) ?_)
 refine(CB.out _ he).mono ?_
 rintro e w9 ⟨U0,u0,U1,u1,U2,u2,U3,u3,U4,u4,rfl,rows0,_,h1⟩
 have rows:Qb9 w.heap.size w9 b (.slice U0 b.log.entries.length u0) (.slice U1 b.receipts.length u1) (.slice U2 b.heads.length u2) (.slice U3 b.sealed.leaves.peaks.length u3) (.slice U4 b.sealed.taken.peaks.length u4):=⟨Qaj rows0.e he.size,Qaj rows0.r he.size,Qaj rows0.h he.size,RowT.ofBase rows0.p he.size,RowT.ofBase rows0.q he.size⟩
 have qw:=he.size
 have b3w:=B3.lt;have b1w:=B1.lt;have bqw:=bq.lt
 have h89:=h1.size
 replace he:=he.next h1;replace B1:=B1.ext h1;replace B3:=B3.ext h1;replace bq:=bq.ext h1
 replace P1:=hU (RowT.ext P1.out h1);replace P2:=hU (RowT.ext P2.out h1)
 clear h1 RX CB rows0
 obtain⟨ns,hns⟩:∃ ns,ns=brkV b U0 u0 U1 u1 U2 u2 U3 u3 U4 u4:=⟨_,rfl⟩
 have HN13:=hU (show ns.length=13 by rw[hns];rfl)
 have HNA:=hU (show ns.all (·.oneCell')=true by rw[hns];rfl)
 rw[<-hns]
 have HNS:=hU hns
 clear hns
 have KZ:=Blk.new w9 37 #[.int .i64 0,.slice none 0 0,.slice none 0 0,.slice none 0 0,.int .i64 0,.slice none 0 0,.int .i64 0,.slice none 0 0,.int .i64 0,.int .i64 0,.string ⟨#[]⟩,.int .i64 0,.string ⟨#[]⟩]
 obtain⟨wa,hwa,B7,hx⟩:∃ wa,wa=(w9.alloc (.cells #[.int .i64 0,.slice none 0 0,.slice none 0 0,.slice none 0 0,.int .i64 0,.slice none 0 0,.int .i64 0,.slice none 0 0,.int .i64 0,.int .i64 0,.string ⟨#[]⟩,.int .i64 0,.string ⟨#[]⟩] 37)).setCells w9.heap.size 0 ns/\Blk wa w9.heap.size 37 ns.toArray/\Ext w9 wa:=⟨_,rfl,Qas KZ ns (by rw[HN13.out];rfl),Qaa (W:=w9) (Nat.le_refl _) ns 0 _ (Ext.new (Below.refl _ _) _)⟩
 have T4:=hU (show World.there (w9.alloc (.cells #[.int .i64 0,.slice none 0 0,.slice none 0 0,.slice none 0 0,.int .i64 0,.slice none 0 0,.int .i64 0,.slice none 0 0,.int .i64 0,.int .i64 0,.string ⟨#[]⟩,.int .i64 0,.string ⟨#[]⟩] 37)) w9.heap.size 0 ns.length by rw[HN13.out];exact KZ.there 0 13 (by simp));have HW:=hU hwa
 replace he:=he.next hx;replace B1:=B1.ext hx;replace B3:=B3.ext hx;replace bq:=bq.ext hx;replace rows:=rows.ext hx
 replace P1:=hU (RowT.ext P1.out hx);replace P2:=hU (RowT.ext P2.out hx)
 have RW:=hU rows
 clear hwa hx KZ rows
 go_upto_region 9 with(refine Qac rfl 37 _ _ rfl rfl w9.heap.size 0 ns rfl rfl T4.out (by rw[HN13.out];kernel_rfl) HNA.out ?_;rw[<-HW.out])
 obtain⟨g7,hg7⟩:∃ g7,g7=w9.heap.size:=⟨_,rfl⟩
 rw[<-hg7] at B7 h89
 rw[<-hg7]
 clear T4 HW hg7 HNA
 have B7L:Blk wa g7 37 #[.int .i64 b.width,.slice U0 b.log.entries.length u0,.slice U1 b.receipts.length u1,.slice U2 b.heads.length u2,.int .i64 b.sealed.leaves.size,.slice U3 b.sealed.leaves.peaks.length u3,.int .i64 b.sealed.taken.size,.slice U4 b.sealed.taken.peaks.length u4,.int .i64 b.sealed.head.number,.int .i64 b.sealed.head.size,.string b.sealed.head.root,.int .i64 b.sealed.head.taken,.string b.sealed.head.takenRoot]:=by have h:=B7;rw[HNS.out] at h;exact h
 obtain⟨ms,hms⟩:∃ ms,ms=Qe8 (Qjq b) (.slice U0 b.log.entries.length u0) (.slice U1 b.receipts.length u1) (.slice U2 b.heads.length u2) (.slice V3 (Qa6 b).leaves.peaks.length v3) (.slice V4 (Qa6 b).taken.peaks.length v4):=⟨_,rfl⟩
 obtain⟨wb,hwb,z1⟩:∃ wb,wb=wa.setCells g7 4 vs/\Blk wb g7 37 ms.toArray:=⟨_,rfl,B7L.put 4 vs ms.toArray (by rw[VS9.out];simp) (by rw[hms,HVS.out];rfl)⟩
 have rows:Qb9 w.heap.size wb (Qjq b) (.slice U0 b.log.entries.length u0) (.slice U1 b.receipts.length u1) (.slice U2 b.heads.length u2) (.slice V3 (Qa6 b).leaves.peaks.length v3) (.slice V4 (Qa6 b).taken.peaks.length v4):=by
  rw[hwb]
  exact⟨Qa1 RW.out.e B7 (by decide) vs 4,Qa1 RW.out.r B7 (by decide) vs 4,Qa1 RW.out.h B7 (by decide) vs 4,Qa1 P1.out B7 (by decide) vs 4,Qa1 P2.out B7 (by decide) vs 4⟩
 have B1b:Blk wb g1 37 cs.toArray:=by rw[hwb];exact B1.farCells (by omega) vs 4
 have B3b:Blk wb g3 37 #[.int .i64 0,.slice none 0 0,.slice none 0 0,.slice none 0 0,.int .i64 0,.slice none 0 0,.int .i64 0,.slice none 0 0,.int .i64 0,.int .i64 0,.string ⟨#[]⟩,.int .i64 0,.string ⟨#[]⟩]:=by rw[hwb];exact B3.farCells (by omega) vs 4
 have bqb:Blk wb q6 35 vs.toArray:=by rw[hwb];exact bq.farCells (by omega) vs 4
 have heb:Ext w wb:=by rw[hwb];exact Qaa (by omega) vs 4 _ he
 have T4:=hU (show wa.there g7 4 vs.length by rw[VS9.out];exact B7L.there 4 9 (by simp))
 have RQ:=hU (Blk.range bq)
 have HW:=hU hwb
 have RW2:=hU rows
 clear RW P1 P2 B7 B7L bq B1 B3 he hwb rows HNS HN13
 go_upto_region 10 with(first|(refine wpList_load_mid rfl 35 _ rfl q6 0 rfl vs _ RQ.out Tryz.underlying35 rfl (by rw[VS9.out];kernel_rfl) ?_)|(refine Qac rfl 35 _ _ rfl rfl g7 4 vs rfl rfl T4.out (by rw[VS9.out];kernel_rfl) VS1.out ?_;rw[<-HW.out]))
 clear T4 RQ HW VS1
 obtain⟨nr,hnr⟩:∃ nr,nr=b.heads.length:=⟨_,rfl⟩
 have lnr:nr<=400:=by rw[hnr];exact LHB.out
 have HNR:=hU hnr;have HMS:=hU hms
 have zL:Blk wb g7 37 #[.int .i64 b.width,.slice U0 b.log.entries.length u0,.slice U1 b.receipts.length u1,.slice U2 b.heads.length u2,.int .i64 (Qa6 b).leaves.size,.slice V3 (Qa6 b).leaves.peaks.length v3,.int .i64 (Qa6 b).taken.size,.slice V4 (Qa6 b).taken.peaks.length v4,.int .i64 (Qb4 b).number,.int .i64 (Qb4 b).size,.string (Qb4 b).root,.int .i64 (Qb4 b).taken,.string (Qb4 b).takenRoot]:=by have h:=z1;rw[hms] at h;exact h
 have x3:wb.cell? ⟨g7,3,none⟩=some (.slice U2 nr u2):=by rw[hnr];exact zL.cell 3
 obtain⟨y4,y5,y6,y7,y8⟩:=QH.out _ bqb
 have rr:=RW2.out.h
 rw[show(Qjq b).heads.length=nr from hnr.symm] at rr
 rw[<-hnr] at rr
 have RR:=hU rr
 have BX:=hU zL;have HE:=hU heb;have Q1:=hU B1b;have Q3:=hU B3b
 have wwb:=heb.size
 clear z1 zL heb B1b B3b bqb rr hnr hms
 go_wp2_with (at_builtin;refine Qap _ rfl _ _ 28 rfl w.heap.size 33 i0 _ 5 56 Tryz.underlying28 hi hz0 hz1 hz2 rfl (by decide) _ _ _ rfl (RR.out.alloc _) ⟨wb.heap.size,0,none⟩ 1 1 [.int .i64 hd.number,.int .i64 hd.size,.string hd.root,.int .i64 hd.taken,.string hd.takenRoot] rfl rfl ?e1 ?e2 ?e3 ?e4 ?e5 ?_)
 case e1=>exact(Blk.new wb 33 #[.int .i64 hd.number,.int .i64 hd.size,.string hd.root,.int .i64 hd.taken,.string hd.takenRoot]).adds
 case e2=>intro u hu;simp at hu;rcases hu with rfl|rfl|rfl|rfl|rfl <;> rfl
 case e3=>unfold maxLen;omega
 case e4=>omega
 case e5=>simp;omega
 intro v' wd ho hf hmv
 obtain⟨VR,vrc,rfl,_⟩:=Qae ho
 have hxa:=Ext.new (Below.refl wb.heap.size wb) (.cells #[.int .i64 hd.number,.int .i64 hd.size,.string hd.root,.int .i64 hd.taken,.string hd.takenRoot] 33)
 have rows:=RW2.out.ext hxa
 have rr:=Qag RR.out hxa
 have LO:=rr.lt
 have g7b:=hf.blk (BX.out.ext hxa) (fun e=>Qew rows.h (BX.out.ext hxa) (by decide) _ (by rw[<-HNR.out];exact e) rfl)
 have B1:=hf.blk (Q1.out.ext hxa) (fun e=>Qew rr (Q1.out.ext hxa) (by decide) _ e rfl)
 have B3:=hf.blk (Q3.out.ext hxa) (fun e=>Qew rr (Q3.out.ext hxa) (by decide) _ e rfl)
 have he:=hf.toExt (HE.out.next hxa) (fun y hy e=>by have:=(LO _ e).1;omega)
 have fe:=hf.own rows.e (fun y hy e2=>Qbq rows.e rr (by decide) y hy e2)
 have fr:=hf.own rows.r (fun y hy e2=>Qbq rows.r rr (by decide) y hy e2)
 have fp:=hf.own rows.p (fun y hy e2=>Qbq rows.p rr (by decide) y hy e2)
 have fq:=hf.own rows.q (fun y hy e2=>Qbq rows.q rr (by decide) y hy e2)
 have fh:wd.ownsRow w.heap.size 33 5 (.slice VR (nr+1) vrc) (slB b).heads.length ((slB b).heads.flatMap Qak.cells):=by
  have e1:(slB b).heads.length=nr+1:=by rw[HNR.out];simp[slB]
  have e2:(slB b).heads.flatMap Qak.cells=(Qjq b).heads.flatMap Qak.cells++[.int .i64 hd.number,.int .i64 hd.size,.string hd.root,.int .i64 hd.taken,.string hd.takenRoot]:=by rw[HHD.out];simp[slB,Qjq,Qak.cells]
  rw[e1,e2];exact ho
 obtain⟨ks,hks⟩:∃ ks,ks=Qe8 (slB b) (.slice U0 b.log.entries.length u0) (.slice U1 b.receipts.length u1) (.slice VR (nr+1) vrc) (.slice V3 (Qa6 b).leaves.peaks.length v3) (.slice V4 (Qa6 b).taken.peaks.length v4):=⟨_,rfl⟩
 have z1:Blk (wd.setCell ⟨g7,3,none⟩ (.slice VR (nr+1) vrc)) g7 37 ks.toArray:=g7b.put 3 [.slice VR (nr+1) vrc] ks.toArray (by simp) (by rw[hks];rfl)
 have z2:Qb9 w.heap.size (wd.setCell ⟨g7,3,none⟩ (.slice VR (nr+1) vrc)) (slB b) (.slice U0 b.log.entries.length u0) (.slice U1 b.receipts.length u1) (.slice VR (nr+1) vrc) (.slice V3 (Qa6 b).leaves.peaks.length v3) (.slice V4 (Qa6 b).taken.peaks.length v4):=⟨Qa1 fe g7b (by decide) [_] _,Qa1 fr g7b (by decide) [_] _,Qa1 fh g7b (by decide) [_] _,Qa1 fp g7b (by decide) [_] _,Qa1 fq g7b (by decide) [_] _⟩
 have z3:=B1.far (p:=⟨g7,3,none⟩) (by show g1≠g7;omega) (.slice VR (nr+1) vrc)
 have z4:=B3.far (p:=⟨g7,3,none⟩) (by show g3≠g7;omega) (.slice VR (nr+1) vrc)
 have z5:Ext w (wd.setCell ⟨g7,3,none⟩ (.slice VR (nr+1) vrc)):=Below.setCell he (p:=⟨g7,3,none⟩) (by show w.heap.size<=g7;omega) _
 have HM13:=hU (show ks.length=13 by rw[hks];rfl)
 have HMA:=hU (show ks.all (·.oneCell')=true by rw[hks];rfl)
 have HKS:=hU hks
 have Z1:=hU z1;have Z2:=hU z2;have Z3:=hU z3;have Z4:=hU z4;have Z5:=hU z5
 have x3:wd.cell? ⟨g7,3,none⟩=some (.slice U2 nr u2):=by rw[HNR.out];exact g7b.cell 3
 have x4:=g7b.frozen 3
 clear ho hf hmv hxa rows rr LO fe fh fp fq fr hks z1 z2 z3 z4 z5 he B1 B3 g7b y4 y5 y6 y7 y8 BX HE Q1 Q3 RW2 RR QH
 go_upto_region 11 with fail
 generalize wd.setCell ⟨g7,3,none⟩ (.slice VR (nr+1) vrc)=we at *
 clear x3 x4
 have rows:=Z2.out
 refine wp_region_held_drew (S:=fun w'=>Blk w' g7 37 ks.toArray/\Blk w' g1 37 cs.toArray/\(∃ ds:Array Value,ds.size=13/\Blk w' g3 37 ds)/\Ext w w') (by kernel_rfl) ⟨Z1.out.drew,Z3.out.drew,⟨_,rfl,Z4.out.drew⟩,Z5.out.drew⟩ (fun hH=>?_)
 replace rows:=rows.ext (Below.refl _ _).drew
 clear Z1 Z2 Z3 Z4 Z5
 refine wpAnyH_take (i:=0) (oi:=_) (v:=_) rfl (by kernel_rfl) (by kernel_rfl) (by kernel_rfl) (fun _ _ _ h=>h) (yieldsIf_load_mid (by rfl) 37 _ rfl g7 0 rfl ks _ (fun w' h=>Blk.range h.1) Tryz.underlying37 rfl (by rw[HM13.out];kernel_rfl)) hH ?_
 try simp only[zB]
 refine wpAnyH_take (i:=1) (oi:=_) (v:=_) rfl (by kernel_rfl) (by kernel_rfl) (by kernel_rfl) (fun _ _ _ h=>h) (yieldsIf_load_mid (by rfl) 37 _ rfl g1 0 rfl cs _ (fun w' h=>Blk.range h.2.1) Tryz.underlying37 rfl (by rw[HL13.out];kernel_rfl)) hH ?_
 try simp only[zB]
 refine tk 2 (.string tx) (some 84) hH ?_
 try simp only[zA]
 refine oneH 3 (oi:=_) (some 85) (by kernel_rfl) rfl rfl rfl (fun K' hK=>?_)
 refine⟨?_⟩
 rw[if_pos (by rfl)]
 go_simp
 refine(LW.out _ tx (by rw[HTX.out];exact Qcx (Qjx _ _)) hH.2.2.2).mono ?_
 rintro e wf ⟨vw,rfl,ow,h1⟩
 have ow:=Qaj (B':=w.heap.size) ow hH.2.2.2.size
 replace rows:=rows.ext h1
 refine hK.out _ _ ⟨_,rfl⟩ (⟨hH.1.ext h1,hH.2.1.ext h1,(by obtain⟨ds,d1,d2⟩:=hH.2.2.1;exact⟨ds,d1,d2.ext h1⟩),hH.2.2.2.next h1⟩) (fun hH2=>?_)
 clear hK K' hH h1
 have hH:=hH2
 clear hH2
 try simp only[zB]
 refine oneH 4 (oi:=_) none (by kernel_rfl) rfl rfl rfl (fun K' hK=>?_)
 refine⟨?_⟩;rw[if_pos (by rfl)]
 obtain⟨y1,y2,⟨ds,d1,d2⟩,y4⟩:=hH
 refine Qao 37 _ _ (by rfl) (by rfl) g3 0 ks (by rfl) (by rfl) (by rw[HM13.out];exact d2.there 0 13 (by omega)) (by rw[HM13.out];kernel_rfl) HMA.out ?_
 have bz:=Qas d2 ks (by rw[HM13.out];exact d1)
 have BZ:=hU bz
 have OO:Hid (Qb9 w.heap.size (wf.setCells g3 0 ks) (slB b) (.slice U0 b.log.entries.length u0) (.slice U1 b.receipts.length u1) (.slice VR (nr+1) vrc) (.slice V3 (Qa6 b).leaves.peaks.length v3) (.slice V4 (Qa6 b).taken.peaks.length v4)):=hU ⟨Qa1 rows.e d2 (by decide) ks 0,Qa1 rows.r d2 (by decide) ks 0,Qa1 rows.h d2 (by decide) ks 0,Qa1 rows.p d2 (by decide) ks 0,Qa1 rows.q d2 (by decide) ks 0⟩
 have OW:=hU (Qa1 ow d2 (by decide) ks 0)
 have hn:Blk (wf.setCells g3 0 ks) g7 37 ks.toArray/\Blk (wf.setCells g3 0 ks) g1 37 cs.toArray/\(∃ ds:Array Value,ds.size=13/\Blk (wf.setCells g3 0 ks) g3 37 ds)/\Ext w (wf.setCells g3 0 ks):=⟨y1.farCells (by omega) ks 0,y2.farCells (by omega) ks 0,⟨_,by rw[List.size_toArray,HM13.out],bz⟩,Qaa hw ks 0 _ y4⟩
 refine hK.out _ _ ⟨undef,rfl⟩ (hn) (fun hH2=>?_)
 clear hK K' hn
 have hH:=hH2
 clear hH2
 try simp only[zB]
 clear rows ow y1 y2 d1 d2 y4 bz
 generalize wf.setCells g3 0 ks=wg at *
 obtain⟨V9,v9,rfl,_⟩:=Qae OW.out
 refine tk 5 (.slice V9 1 v9) (some 3) hH ?_
 try simp only[zA]
 refine tk 6 (.int .i64 0) (some 4) hH ?_
 try simp only[zA]
 have HX:=hU hH.2.2.2
 clear hH
 refine wpAnyH_done (by kernel_rfl) ?_ _
 go_wp2_with fail
 refine Qd6 rfl rfl BZ.out Tryz.underlying37 rfl (by rw[List.size_toArray,HM13.out];kernel_rfl) rfl ?_
 rw[(Qjp E.out).1,(Qjp E.out).2,E.out,<-HTX.out]
 exact⟨_,_,_,_,_,_,by rw[HKS.out];rfl,OO.out,AP.out,by simpa using OW.out,HX.out⟩
end Go.Proofs.YtbnkjgcpjeedfaaGreat

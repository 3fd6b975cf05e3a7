/-
  SealB: No condition.
-/
import Derived.Test.YtbnkjgcpjeedfaaGreatSealW
import Derived.Test.YtbnkjgcpjeedfaaGreatHeadsOks
namespace Go.Proofs.YtbnkjgcpjeedfaaGreat
set_option maxHeartbeats 8000000
set_option maxRecDepth 100000
set_option linter.unusedSimpArgs false
open Go.RowKit
set_option linter.unusedVariables false
def Qyi (b:Qad) (K g:Nat) (ve vr:Value) (w:World) (e:Ending) (w':World):Prop:=
 ∃ vw,e=.returned (.tuple #[vw,.int .i64 (Qev b:Int)])/\((Qev b≠0/\Ext w w')\/
  (Qev b=0/\∃ vh v1 v2,Blk w' g 37 (Qe8 (slB b) ve vr vh v1 v2).toArray/\Qb9 K w' (slB b) ve vr vh v1 v2/\(∀ x,v1.ownBlock=some x->v2.ownBlock≠some x)/\w'.ownsRow K 50 3 vw 1 (Qcs b 1 (Qa4 b.width (Qb4 b))).cells/\Below K w w'))
theorem Qyi.no{b:Qad}{K g:Nat}{ve vr vw:Value}{w w':World}{e:Ending}{k:Nat}(h:Qev b=k)(h0:k≠0)(he:e=.returned (.tuple #[vw,.int .i64 (k:Int)]))(hx:Ext w w'):Qyi b K g ve vr w e w':=
 ⟨vw,by rw[h];exact he,.inl ⟨by omega,hx⟩⟩
theorem Qt0{b:Qad}{n1 n2:Nat}(sf:SlF_ b n1 n2)(h:BSz b):BSz (Qjq b):=by
 have k1:=Qh9 (slL b).length;have k2:=Qh9 (slT b).length
 have e1:(slL b).length=b.log.entries.length:=by rw[slL,Qa8,List.length_map]
 have e2:(slT b).length=b.receipts.length:=by rw[slT,Qbp,List.length_map]
 have:=sf.le;have:=sf.lr
 refine⟨h.e,h.r,h.h,?_,?_⟩
 · show(Qbt (ndB b.width) (slL b)).reverse.length<=1048576
   rw[List.length_reverse,Qeq];omega
 · show(Qbt (ndB b.width) (slT b)).reverse.length<=1048576
   rw[List.length_reverse,Qeq];omega
theorem Qk7{K:Nat}{w w1 w2:World}(h:Below K w w1)(he:Ext w1 w2)(hK:K<=w1.heap.size):Below K w w2:=
 ⟨he.os.trans h.os,he.tape.trans h.tape,he.output.trans h.output,Nat.le_trans h.size he.size,fun k hk=>(he.block k (by omega)).trans (h.block k hk)⟩
theorem Qyf{X:Nat->Prop}{K:Nat}{w w1 w2:World}(h:Below K w w1)(hf:Frm X w1 w2)(hX:∀ b,X b->K<=b)(hK:K<=w1.heap.size):Below K w w2:=
 ⟨hf.os.trans h.os,hf.tape.trans h.tape,hf.output.trans h.output,Nat.le_trans h.size hf.size,fun k hk=>(hf.block k (by omega) (fun hx=>by have:=hX k hx;omega)).trans (h.block k hk)⟩
theorem more_of(b:Qad)(g n1 n2:Nat)(A0:Option Addr)(a0:Nat)(A1:Option Addr)(a1:Nat)(A2:Option Addr)(a2:Nat)(A3:Option Addr)(a3:Nat)(A4:Option Addr)(a4:Nat)(K:Nat)(w W:World)(sf:SlF_ b n1 n2)(hG:Blk W g 37 #[.int .i64 b.width,.slice A0 b.log.entries.length a0,.slice A1 b.receipts.length a1,.slice A2 b.heads.length a2,.int .i64 b.sealed.leaves.size,.slice A3 b.sealed.leaves.peaks.length a3,.int .i64 b.sealed.taken.size,.slice A4 b.sealed.taken.peaks.length a4,.int .i64 b.sealed.head.number,.int .i64 b.sealed.head.size,.string b.sealed.head.root,.int .i64 b.sealed.head.taken,.string b.sealed.head.takenRoot])(hgw:g<w.heap.size)(rb:Qb9 K W b (.slice A0 b.log.entries.length a0) (.slice A1 b.receipts.length a1) (.slice A2 b.heads.length a2) (.slice A3 b.sealed.leaves.peaks.length a3) (.slice A4 b.sealed.taken.peaks.length a4))(rw_:Qb9 K w b (.slice A0 b.log.entries.length a0) (.slice A1 b.receipts.length a1) (.slice A2 b.heads.length a2) (.slice A3 b.sealed.leaves.peaks.length a3) (.slice A4 b.sealed.taken.peaks.length a4))(hap:∀ x,(Value.slice A3 b.sealed.leaves.peaks.length a3).ownBlock=some x->(Value.slice A4 b.sealed.taken.peaks.length a4).ownBlock≠some x)(he:Ext w W)(hKg:K<=g)(hKw:K<=w.heap.size)
 (l1 l2:List ByteArray) (hl1:l1=(slL b).drop n1) (hl2:l2=(slT b).drop n2) (HA:Option Addr) (ha:Nat) (HB:Option Addr) (hb:Nat) (q1:RowT w.heap.size W (.slice HA l1.length ha) l1) (q2:RowT w.heap.size W (.slice HB l2.length hb) l2) :
 Calls Tryz.prog 177 #[.pointer (some ⟨g,4,none⟩),.int .i64 b.width,.slice HA l1.length ha,.slice HB l2.length hb] W fun e w'=>∃ m V3 v3 V4 v4,e=.returned (.int .i64 m)/\
  Blk w' g 37 (Qe8 (Qjq b) (.slice A0 b.log.entries.length a0) (.slice A1 b.receipts.length a1) (.slice A2 b.heads.length a2) (.slice V3 (Qa6 b).leaves.peaks.length v3) (.slice V4 (Qa6 b).taken.peaks.length v4)).toArray/\
  Qb9 K w' (Qjq b) (.slice A0 b.log.entries.length a0) (.slice A1 b.receipts.length a1) (.slice A2 b.heads.length a2) (.slice V3 (Qa6 b).leaves.peaks.length v3) (.slice V4 (Qa6 b).taken.peaks.length v4)/\(∀ x,(Value.slice V3 (Qa6 b).leaves.peaks.length v3).ownBlock=some x->(Value.slice V4 (Qa6 b).taken.peaks.length v4).ownBlock≠some x)/\Below K w w':=by
 have z:=sf.z
 obtain⟨s1,hs1⟩:∃ s1,s1=Qbt (ndB b.width) ((slL b).take n1):=⟨_,rfl⟩
 obtain⟨s2,hs2⟩:∃ s2,s2=Qbt (ndB b.width) ((slT b).take n2):=⟨_,rfl⟩
 have eL:(slL b).length=b.log.entries.length:=by rw[slL,Qa8,List.length_map]
 have eT:(slT b).length=b.receipts.length:=by rw[slT,Qbp,List.length_map]
 have k1:b.sealed.leaves.size=(n1:Int):=by rw[z]
 have k2:b.sealed.taken.size=(n2:Int):=by rw[z]
 have k3:b.sealed.leaves.peaks=s1.reverse:=by rw[z,hs1]
 have k4:b.sealed.taken.peaks=s2.reverse:=by rw[z,hs2]
 have k5:b.sealed.head=Qaw b.heads:=by rw[z]
 have f1:=sf.e;have f2:=sf.r;have f3:=sf.le;have f4:=sf.lr;have f5:=sf.lh
 have t1:((slL b).take n1).length=n1:=by rw[List.length_take];omega
 have t2:((slT b).take n2).length=n2:=by rw[List.length_take];omega
 have d1:l1.length=(slL b).length-n1:=by rw[hl1,List.length_drop]
 have d2:l2.length=(slT b).length-n2:=by rw[hl2,List.length_drop]
 have lowQ:∀ {A:Option Addr} {c:Nat} {l:List ByteArray},RowT w.heap.size W (.slice A l.length c) l->SlF (fun x=>x≠g/\(Value.slice A3 b.sealed.leaves.peaks.length a3).ownBlock≠some x/\(Value.slice A4 b.sealed.taken.peaks.length a4).ownBlock≠some x) sone 1 W A l c:=fun h=>by
  obtain⟨A',c',e,s⟩:=Qlj h
  cases e
  exact s.mono (fun x hx=>⟨by unfold FromB at hx;omega,fun e=>by have:=(rw_.p.lt x e).2;unfold FromB at hx;omega,fun e=>by have:=(rw_.q.lt x e).2;unfold FromB at hx;omega⟩)
 have hm:=Quc b.width sf.w K g 37 4 n1 n2 [.int .i64 b.width,.slice A0 b.log.entries.length a0,.slice A1 b.receipts.length a1,.slice A2 b.heads.length a2] [] (.slice A3 b.sealed.leaves.peaks.length a3) (.slice A4 b.sealed.taken.peaks.length a4) (Qaw b.heads) s1 s2 HA ha l1 HB hb l2 W rfl
  (by have h:=hG;rw[k1,k2,k5] at h;exact h) (by decide) (by rw[<-k3];exact rb.p) (by rw[<-k4];exact rb.q) hap (Nat.le_trans hKw he.size)
  (by rw[hs1];exact Qkf sf.w (fun x hx=>sf.l x (List.mem_of_mem_take hx))) (by rw[hs2];exact Qkf sf.w (fun x hx=>sf.m x (List.mem_of_mem_take hx))) (by rw[hs1,Qeq,t1]) (by rw[hs2,Qeq,t2]) (by omega) (by omega) (by omega) (by omega) (by rw[sf.n];omega)
  (lowQ q1) (lowQ q2) (fun x hx=>sf.l x (by rw[hl1] at hx;exact List.mem_of_mem_drop hx)) (fun x hx=>sf.m x (by rw[hl2] at hx;exact List.mem_of_mem_drop hx))
 refine hm.mono ?_
 rintro e w' ⟨m,v1',v2',rfl,bm,r1,r2,fm,mv1,mv2,apn⟩
 have G1:Qcj (ndB b.width) n1 s1 l1=Qbt (ndB b.width) (slL b):=by rw[hs1,hl1];exact Qp1 _ _ (by omega)
 have G2:Qcj (ndB b.width) n2 s2 l2=Qbt (ndB b.width) (slT b):=by rw[hs2,hl2];exact Qp1 _ _ (by omega)
 rw[G1] at r1
 rw[G2] at r2
 have N1:n1+l1.length=(slL b).length:=by omega
 have N2:n2+l2.length=(slT b).length:=by omega
 rw[G1,G2,N1,N2,Qlm,Qlm] at bm
 obtain⟨V3,v3,rfl,_⟩:=Qae r1
 obtain⟨V4,v4,rfl,_⟩:=Qae r2
 have key:∀ {e s n:Nat} {v:Value} {xs:List Value},W.ownsRow K e s v n xs->37≠e->e≠9->w'.ownsRow K e s v n xs:=fun h t1 t2=>fm.own h (fun y hy hx=>by
  rcases hx with hx|hx|hx
  · exact Qew h hG t1 y hy hx
  · exact Qbq h rb.p t2 y hy hx
  · exact Qbq h rb.q t2 y hy hx)
 refine⟨m,V3,v3,V4,v4,rfl,bm,⟨key rb.e (by decide) (by decide),key rb.r (by decide) (by decide),key rb.h (by decide) (by decide),r1,r2⟩,apn,Qqx he fm (fun y hy=>?_) hKw⟩
 rcases hy with hy|hy|hy
 · omega
 · exact(rb.p.lt y hy).1
 · exact(rb.q.lt y hy).1
theorem seal_any(b:Qad)(g:Nat)(A0:Option Addr)(a0:Nat)(A1:Option Addr)(a1:Nat)(A2:Option Addr)(a2:Nat)(A3:Option Addr)(a3:Nat)(A4:Option Addr)(a4:Nat)(K:Nat)(w:World)(hb:Blk w g 37 #[.int .i64 b.width,.slice A0 b.log.entries.length a0,.slice A1 b.receipts.length a1,.slice A2 b.heads.length a2,.int .i64 b.sealed.leaves.size,.slice A3 b.sealed.leaves.peaks.length a3,.int .i64 b.sealed.taken.size,.slice A4 b.sealed.taken.peaks.length a4,.int .i64 b.sealed.head.number,.int .i64 b.sealed.head.size,.string b.sealed.head.root,.int .i64 b.sealed.head.taken,.string b.sealed.head.takenRoot])(hrows:Qb9 K w b (.slice A0 b.log.entries.length a0) (.slice A1 b.receipts.length a1) (.slice A2 b.heads.length a2) (.slice A3 b.sealed.leaves.peaks.length a3) (.slice A4 b.sealed.taken.peaks.length a4))(hap:∀ x,(Value.slice A3 b.sealed.leaves.peaks.length a3).ownBlock=some x->(Value.slice A4 b.sealed.taken.peaks.length a4).ownBlock≠some x)(hk:TxOk b)(hB:Qar b=true)(hKg:K<=g)(hKw:K<=w.heap.size) :
 Calls Tryz.prog 101 #[.pointer (some ⟨g,0,none⟩)] w (Qyi b K g (.slice A0 b.log.entries.length a0) (.slice A1 b.receipts.length a1) w):=by
 obtain⟨i0,hi,hz0,hz1,hz2⟩:=info_parts infH
 obtain⟨n1,n2,sf⟩:=Qir hB
 have SF:=hU sf
 have hgw:=hb.lt
 have s0:BArg AnyB w b A0 a0 A1 a1 A2 a2 A3 a3 A4 a4:=⟨Qb6 hrows.e,Qb6 hrows.r,Qb6 hrows.h,Qb6 hrows.p,Qb6 hrows.q⟩
 have WT:=hU (Qsm b g A0 a0 A1 a1 A2 a2 A3 a3 A4 a4 w hb s0 hk.n hk.h (by have:=sf.s;have:=sf.e;have:=sf.le;omega) (by have:=sf.t;have:=sf.r;have:=sf.lr;omega))
 obtain⟨l1,hl1⟩:∃ l1,l1=(slL b).drop n1:=⟨_,rfl⟩
 obtain⟨l2,hl2⟩:∃ l2,l2=(slT b).drop n2:=⟨_,rfl⟩
 obtain⟨A7,hA7⟩:∃ A7,A7=Qhx A0 a0 n1 5:=⟨_,rfl⟩
 obtain⟨a7,ha7⟩:∃ a7,a7=a0-n1:=⟨_,rfl⟩
 obtain⟨A8,hA8⟩:∃ A8,A8=Qhx A1 a1 n2 3:=⟨_,rfl⟩
 obtain⟨a8,ha8⟩:∃ a8,a8=a1-n2:=⟨_,rfl⟩
 have e1:(b.log.entries.drop n1).length=l1.length:=by rw[hl1,List.length_drop,List.length_drop,slL,Qa8,List.length_map]
 have e2:(b.receipts.drop n2).length=l2.length:=by rw[hl2,List.length_drop,List.length_drop,slT,Qbp,List.length_map]
 have m1:(b.log.entries.drop n1).map (Qgk b.width)=l1:=by rw[hl1,slL,Qa8,List.map_drop]
 have m2:(b.receipts.drop n2).map (recH b.width)=l2:=by rw[hl2,slT,Qbp,List.map_drop]
 have RF1:Hid (∀ W:World,(Instr.slice 24 (.slice A0 b.log.entries.length a0) (some (.int .i64 (Qaw b.heads).size)) none none).run Tryz.prog W=.ok (.slice A7 l1.length a7) W):=hU (fun W=>by
  rw[Qka (P:=Tryz.prog) (t:=24) A0 b.log.entries.length a0 n1 5 Tryz.underlying24 (fun W=>by kernel_rfl) sf.e (x:=(Qaw b.heads).size) sf.s W,hA7,ha7,<-e1,List.length_drop])
 have RF2:Hid (∀ W:World,(Instr.slice 27 (.slice A1 b.receipts.length a1) (some (.int .i64 (Qaw b.heads).taken)) none none).run Tryz.prog W=.ok (.slice A8 l2.length a8) W):=hU (fun W=>by
  rw[Qka (P:=Tryz.prog) (t:=27) A1 b.receipts.length a1 n2 3 Tryz.underlying27 (fun W=>by kernel_rfl) sf.r (x:=(Qaw b.heads).taken) sf.t W,hA8,ha8,<-e2,List.length_drop])
 have CH:Hid (∀(W:World),Ext w W->Calls Tryz.prog 118 #[.int .i64 b.width,.agg #[.slice A7 l1.length a7]] W fun e w'=>∃ v,e=.returned v/\RowT W.heap.size w' v l1/\Ext W w'):=hU (fun W hW=>by
  have h:=Ql3 b.width A7 a7 (b.log.entries.drop n1) W (by rw[hA7,ha7];exact Qmi Qaf.cells_length (s0.ext hW).e n1 sf.e) (fun d hd=>hk.e d (List.mem_of_mem_drop hd)) (by have:=sf.le;rw[List.length_drop];omega)
  rw[e1,m1] at h
  exact h)
 have CT:Hid (∀(W:World),Ext w W->Calls Tryz.prog 119 #[.int .i64 b.width,.slice A8 l2.length a8] W fun e w'=>∃ v,e=.returned v/\RowT W.heap.size w' v l2/\Ext W w'):=hU (fun W hW=>by
  have h:=Qg2 b.width A8 a8 (b.receipts.drop n2) W (by rw[hA8,ha8];exact Qmi Qab.cells_length (s0.ext hW).r n2 sf.r) (fun d hd=>hk.r d (List.mem_of_mem_drop hd)) (by have:=sf.lr;rw[List.length_drop];omega)
  rw[e2,m2] at h
  exact h)
 have L1:=hU hl1;have L2:=hU hl2
 have BG:=hU hb;have RW:=hU hrows;have HK:=hU hk;have S0:=hU s0;have HAP:=hU hap
 obtain⟨lh,hlh⟩:∃ lh,lh=Qaw b.heads:=⟨_,rfl⟩
 have HLH:=hU hlh
 clear hb hrows hk hB s0 hap sf hl1 hl2 hA7 ha7 hA8 ha8 e1 e2 m1 m2 hlh
 go_enter Tryz.func101,Tryz.ntmps101
 go_wp2_with fail
 refine WT.out.mono ?_
 rintro e w1 ⟨rfl,he⟩
 clear WT
 obtain⟨de,hde⟩:∃ de,de=(b.log.entries.length:Int)-(Qaw b.heads).size:=⟨_,rfl⟩
 obtain⟨dr,hdr⟩:∃ dr,dr=(b.receipts.length:Int)-(Qaw b.heads).taken:=⟨_,rfl⟩
 rw[<-hde,<-hdr]
 have DE:=hU hde;have DR:=hU hdr
 clear hde hdr
 by_cases cw:de=0/\dr=0
 · have E:=hU (sl2 (b:=b) (by rw[<-DE.out];exact cw.1) (by rw[<-DR.out];exact cw.2))
   have z1:(de==0)=true:=beq_iff_eq.2 cw.1
   have z2:(dr==0)=true:=beq_iff_eq.2 cw.2
   clear cw
   go_wp2_with fail
   go_ret2
   exact Qyi.no E.out (by decide) rfl he
 have NW:=hU (show ¬ ((b.log.entries.length:Int)-(Qaw b.heads).size=0/\(b.receipts.length:Int)-(Qaw b.heads).taken=0) by rw[<-DE.out,<-DR.out];exact cw)
 go_upto_region 2 with fail
 go_cut [22] from 17 to 22 (fun vx wx=>vx=.bool false/\wx=w1)
 case first=>
  by_cases c0:de=0
  · have z1:(de==0)=true:=beq_iff_eq.2 c0
    have z2:(dr==0)=false:=beq_false_of_ne (fun h=>cw ⟨c0,h⟩)
    go_wp2_with fail
    go_meet
    case rel=>exact⟨rfl,rfl⟩
  · have z1:(de==0)=false:=beq_false_of_ne c0
    go_wp2_with fail
    go_meet
    case rel=>exact⟨rfl,rfl⟩
 case rest=>
 obtain⟨rfl,hwx⟩:=hcut
 subst hwx
 clear cw DE DR
 have G1:=BG.out.ext he
 obtain⟨rg,fg⟩:=G1.rules
 obtain⟨nh,hnh⟩:∃ nh,nh=b.heads.length:=⟨_,rfl⟩
 have nhl:=HK.out.n.h
 rw[<-hnh] at nhl rg
 have HNH:=hU hnh
 clear hnh
 by_cases p4:400<=nh
 · have E:=hU (sl3 NW.out (by rw[<-HNH.out];exact p4))
   have g0:decide ((400:Int)<=(nh:Int))=true:=decide_eq_true (by omega)
   clear G1
   go_wp2_with fail
   go_ret2
   exact Qyi.no E.out (by decide) rfl he
 have E:=hU (sl0 NW.out (by rw[<-HNH.out];exact p4))
 have g0:decide ((400:Int)<=(nh:Int))=false:=decide_eq_false (by omega)
 have CL:=hU (Qkk g A2 a2 b.heads _ (G1.cell 3) G1.lt (S0.out.ext he).h.reads HK.out.h HK.out.n.h)
 rw[<-HLH.out] at CL RF1 RF2
 clear G1
 go_wp2_with fail
 refine CL.out.mono ?_
 rintro e w4 ⟨rfl,h1⟩
 replace he:=he.next h1
 clear h1 CL rg fg g0 p4
 go_upto_region 7 with fail
 have Q6:=Blk.new w4 33 #[.int .i64 lh.number,.int .i64 lh.size,.string lh.root,.int .i64 lh.taken,.string lh.takenRoot]
 have hx:=Ext.new (Below.refl w4.heap.size w4) (.cells #[.int .i64 lh.number,.int .i64 lh.size,.string lh.root,.int .i64 lh.taken,.string lh.takenRoot] 33)
 replace he:=he.next hx
 obtain⟨q6,hq6⟩:∃ q6,q6=w4.heap.size:=⟨_,rfl⟩
 rw[<-hq6] at Q6
 rw[<-hq6]
 clear hx hq6
 generalize w4.alloc (.cells #[.int .i64 lh.number,.int .i64 lh.size,.string lh.root,.int .i64 lh.taken,.string lh.takenRoot] 33)=w5 at *
 have G5:=BG.out.ext he
 refine wp_region_held_drew (S:=fun w'=>Blk w' g 37 #[.int .i64 b.width,.slice A0 b.log.entries.length a0,.slice A1 b.receipts.length a1,.slice A2 b.heads.length a2,.int .i64 b.sealed.leaves.size,.slice A3 b.sealed.leaves.peaks.length a3,.int .i64 b.sealed.taken.size,.slice A4 b.sealed.taken.peaks.length a4,.int .i64 b.sealed.head.number,.int .i64 b.sealed.head.size,.string b.sealed.head.root,.int .i64 b.sealed.head.taken,.string b.sealed.head.takenRoot]/\Blk w' q6 33 #[.int .i64 lh.number,.int .i64 lh.size,.string lh.root,.int .i64 lh.taken,.string lh.takenRoot]/\Ext w w') (by kernel_rfl) ⟨G5.drew,Q6.drew,he.drew⟩ (fun hH=>?_)
 have RFA:=RF1.out
 clear G5 Q6 he
 refine tk 0 (.pointer (some ⟨g,0,none⟩)) (some 31) hH ?_
 try simp only[zA]
 refine tk 1 (.pointer (some ⟨g,0,none⟩)) (some 32) hH ?_
 try simp only[zA]
 refine tk 2 (.pointer (some ⟨g,0,none⟩)) (some 33) hH ?_
 try simp only[zA]
 refine Qah 3 (.int .i64 b.width) (some 34) rfl rfl (by kernel_rfl) (Or.inl ⟨by rfl,?ysa4⟩) hH ?rsa4
 case ysa4=>intro w' hS';obtain⟨s0,s1,s2⟩:=hS';obtain⟨r0,f0⟩:=s0.rules;obtain⟨r1,f1⟩:=s1.rules;go_simp;try with_reducible rfl
 try simp only[zA]
 refine tk 4 (.pointer (some ⟨g,0,none⟩)) (some 35) hH ?_
 try simp only[zA]
 refine tk 5 (.pointer (some ⟨g,0,none⟩)) (some 36) hH ?_
 try simp only[zA]
 refine tk 6 (.pointer (some ⟨g,1,none⟩)) (some 37) hH ?_
 try simp only[zA]
 refine tk 7 (.pointer (some ⟨g,1,none⟩)) (some 38) hH ?_
 try simp only[zA]
 refine Qah 8 (.slice A0 b.log.entries.length a0) (some 39) rfl rfl (by kernel_rfl) (Or.inl ⟨by rfl,?ysa9⟩) hH ?rsa9
 case ysa9=>intro w' hS';obtain⟨s0,s1,s2⟩:=hS';obtain⟨r0,f0⟩:=s0.rules;obtain⟨r1,f1⟩:=s1.rules;go_simp;try with_reducible rfl
 try simp only[zA]
 refine tk 9 (.pointer (some ⟨q6,1,none⟩)) (some 40) hH ?_
 try simp only[zA]
 refine Qah 10 (.int .i64 lh.size) (some 41) rfl rfl (by kernel_rfl) (Or.inl ⟨by rfl,?ysa11⟩) hH ?rsa11
 case ysa11=>intro w' hS';obtain⟨s0,s1,s2⟩:=hS';obtain⟨r0,f0⟩:=s0.rules;obtain⟨r1,f1⟩:=s1.rules;go_simp;try with_reducible rfl
 try simp only[zA]
 refine Qah 11 (.slice A7 l1.length a7) (some 42) rfl rfl (by kernel_rfl) (Or.inl ⟨by rfl,?ysa12⟩) hH ?rsa12
 case ysa12=>intro w' hS';obtain⟨s0,s1,s2⟩:=hS';obtain⟨r0,f0⟩:=s0.rules;obtain⟨r1,f1⟩:=s1.rules;go_simp;try with_reducible rfl
 try simp only[zA]
 refine Qah 12 (.agg #[.slice A7 l1.length a7]) (some 43) rfl rfl (by kernel_rfl) (Or.inl ⟨by rfl,?ysa13⟩) hH ?rsa13
 case ysa13=>intro w' hS';obtain⟨s0,s1,s2⟩:=hS';obtain⟨r0,f0⟩:=s0.rules;obtain⟨r1,f1⟩:=s1.rules;go_simp;try with_reducible rfl
 try simp only[zA]
 refine oneH 13 (oi:=_) (some 44) (by kernel_rfl) rfl rfl rfl (fun K' hK=>?_)
 refine⟨?_⟩
 rw[if_pos (by rfl)]
 go_simp
 refine(CH.out _ hH.2.2).mono ?_
 rintro e w6 ⟨v,rfl,hr,h1⟩
 have hu:=hH.2.2.size
 have hr1:=RowT.ofBase hr hu
 obtain⟨HA,ha,rfl,_⟩:=Qae hr
 have BH1:=hU (show ∀ x,(Value.slice HA l1.length ha).ownBlock=some x->w.heap.size<=x from fun x hx=>by exact Nat.le_trans hu (hr.lt x hx).1)
 have R1:=hU hr1
 clear hr hr1 hu
 refine hK.out _ _ ⟨_,rfl⟩ (⟨hH.1.ext h1,hH.2.1.ext h1,hH.2.2.next h1⟩) (fun hH2=>?_)
 clear hK K' hH h1
 have hH:=hH2
 clear hH2
 try simp only[zB]
 refine Qah 14 (.slice HA l1.length ha) (some 7) rfl rfl (by kernel_rfl) (Or.inl ⟨by rfl,?ysa14⟩) hH ?rsa14
 case ysa14=>intro w' hS';obtain⟨s0,s1,s2⟩:=hS';obtain⟨r0,f0⟩:=s0.rules;obtain⟨r1,f1⟩:=s1.rules;go_simp;try with_reducible rfl
 try simp only[zA]
 have he:=hH.2.2;have Q6:=hH.2.1;have G6:=hH.1
 clear hH RFA RF1 CH
 refine wpAnyH_done (by kernel_rfl) ?_ _
 go_upto_region 8 with fail
 refine wp_region_held_drew (S:=fun w'=>Blk w' g 37 #[.int .i64 b.width,.slice A0 b.log.entries.length a0,.slice A1 b.receipts.length a1,.slice A2 b.heads.length a2,.int .i64 b.sealed.leaves.size,.slice A3 b.sealed.leaves.peaks.length a3,.int .i64 b.sealed.taken.size,.slice A4 b.sealed.taken.peaks.length a4,.int .i64 b.sealed.head.number,.int .i64 b.sealed.head.size,.string b.sealed.head.root,.int .i64 b.sealed.head.taken,.string b.sealed.head.takenRoot]/\Blk w' q6 33 #[.int .i64 lh.number,.int .i64 lh.size,.string lh.root,.int .i64 lh.taken,.string lh.takenRoot]/\Ext w w') (by kernel_rfl) ⟨G6.drew,Q6.drew,he.drew⟩ (fun hH=>?_)
 have RFA:=RF2.out
 replace R1:=hU (RowT.ext R1.out (Below.refl _ _).drew)
 clear G6 Q6 he
 refine tk 0 (.pointer (some ⟨g,0,none⟩)) (some 45) hH ?_
 try simp only[zA]
 refine tk 1 (.pointer (some ⟨g,0,none⟩)) (some 46) hH ?_
 try simp only[zA]
 refine tk 2 (.pointer (some ⟨g,0,none⟩)) (some 47) hH ?_
 try simp only[zA]
 refine Qah 3 (.int .i64 b.width) (some 48) rfl rfl (by kernel_rfl) (Or.inl ⟨by rfl,?ysb4⟩) hH ?rsb4
 case ysb4=>intro w' hS';obtain⟨s0,s1,s2⟩:=hS';obtain⟨r0,f0⟩:=s0.rules;obtain⟨r1,f1⟩:=s1.rules;go_simp;try with_reducible rfl
 try simp only[zA]
 refine tk 4 (.pointer (some ⟨g,0,none⟩)) (some 49) hH ?_
 try simp only[zA]
 refine tk 5 (.pointer (some ⟨g,0,none⟩)) (some 50) hH ?_
 try simp only[zA]
 refine tk 6 (.pointer (some ⟨g,2,none⟩)) (some 51) hH ?_
 try simp only[zA]
 refine Qah 7 (.slice A1 b.receipts.length a1) (some 52) rfl rfl (by kernel_rfl) (Or.inl ⟨by rfl,?ysb8⟩) hH ?rsb8
 case ysb8=>intro w' hS';obtain⟨s0,s1,s2⟩:=hS';obtain⟨r0,f0⟩:=s0.rules;obtain⟨r1,f1⟩:=s1.rules;go_simp;try with_reducible rfl
 try simp only[zA]
 refine tk 8 (.pointer (some ⟨q6,3,none⟩)) (some 53) hH ?_
 try simp only[zA]
 refine Qah 9 (.int .i64 lh.taken) (some 54) rfl rfl (by kernel_rfl) (Or.inl ⟨by rfl,?ysb10⟩) hH ?rsb10
 case ysb10=>intro w' hS';obtain⟨s0,s1,s2⟩:=hS';obtain⟨r0,f0⟩:=s0.rules;obtain⟨r1,f1⟩:=s1.rules;go_simp;try with_reducible rfl
 try simp only[zA]
 refine Qah 10 (.slice A8 l2.length a8) (some 55) rfl rfl (by kernel_rfl) (Or.inl ⟨by rfl,?ysb11⟩) hH ?rsb11
 case ysb11=>intro w' hS';obtain⟨s0,s1,s2⟩:=hS';obtain⟨r0,f0⟩:=s0.rules;obtain⟨r1,f1⟩:=s1.rules;go_simp;try with_reducible rfl
 try simp only[zA]
 refine oneH 11 (oi:=_) (some 56) (by kernel_rfl) rfl rfl rfl (fun K' hK=>?_)
 refine⟨?_⟩
 rw[if_pos (by rfl)]
 go_simp
 refine(CT.out _ hH.2.2).mono ?_
 rintro e w7 ⟨v,rfl,hr,h1⟩
 have hu:=hH.2.2.size
 have hr1:=RowT.ofBase hr hu
 obtain⟨HB,hb,rfl,_⟩:=Qae hr
 have BH2:=hU (show ∀ x,(Value.slice HB l2.length hb).ownBlock=some x->w.heap.size<=x from fun x hx=>by exact Nat.le_trans hu (hr.lt x hx).1)
 have R2:=hU hr1
 replace R1:=hU (RowT.ext R1.out h1)
 clear hr hr1 hu
 refine hK.out _ _ ⟨_,rfl⟩ (⟨hH.1.ext h1,hH.2.1.ext h1,hH.2.2.next h1⟩) (fun hH2=>?_)
 clear hK K' hH h1
 have hH:=hH2
 clear hH2
 try simp only[zB]
 refine Qah 12 (.slice HB l2.length hb) (some 8) rfl rfl (by kernel_rfl) (Or.inl ⟨by rfl,?ysb12⟩) hH ?rsb12
 case ysb12=>intro w' hS';obtain⟨s0,s1,s2⟩:=hS';obtain⟨r0,f0⟩:=s0.rules;obtain⟨r1,f1⟩:=s1.rules;go_simp;try with_reducible rfl
 try simp only[zA]
 have he:=hH.2.2;have G7:=hH.1
 clear hH RFA RF2 CT
 refine wpAnyH_done (by kernel_rfl) ?_ _
 go_upto_region 9 with fail
 have RB:=RW.out.ext he
 have g8:=G7.drew;have he8:=he.drew;have rb8:=RB.ext (Below.refl _ _).drew;have q1:=RowT.ext R1.out (Below.refl _ _).drew;have q2:=RowT.ext R2.out (Below.refl _ _).drew
 refine wp_region_held_drew (S:=fun w'=>w'.cell? ⟨g,0,none⟩=some (.int .i64 b.width)) (by kernel_rfl) (g8.cell 0) (fun hH=>?_)
 clear G7 he RB R1 R2
 generalize w7.drew=w8 at *
 have MR:=hU (more_of b g n1 n2 A0 a0 A1 a1 A2 a2 A3 a3 A4 a4 K w w8 SF.out g8 hgw rb8 RW.out HAP.out he8 hKg hKw l1 l2 L1.out L2.out HA ha HB hb q1 q2)
 clear g8 rb8 q1 q2
 refine tk 0 (.pointer (some ⟨g,0,none⟩)) (some 57) hH ?_
 try simp only[zA]
 refine tk 1 (.pointer (some ⟨g,0,none⟩)) (some 58) hH ?_
 try simp only[zA]
 refine tk 2 (.pointer (some ⟨g,4,none⟩)) (some 59) hH ?_
 try simp only[zA]
 refine tk 3 (.pointer (some ⟨g,0,none⟩)) (some 60) hH ?_
 try simp only[zA]
 refine tk 4 (.pointer (some ⟨g,0,none⟩)) (some 61) hH ?_
 try simp only[zA]
 refine tk 5 (.pointer (some ⟨g,0,none⟩)) (some 62) hH ?_
 try simp only[zA]
 refine Qah 6 (.int .i64 b.width) (some 63) rfl rfl (by kernel_rfl) (Or.inl ⟨by rfl,?ysc7⟩) hH ?rsc7
 case ysc7=>intro w' hS';have s0:=hS';go_simp;try with_reducible rfl
 try simp only[zA]
 refine Qah 7 (.slice HA l1.length ha) (some 64) rfl rfl (by kernel_rfl) (Or.inl ⟨by rfl,?ysc8⟩) hH ?rsc8
 case ysc8=>intro w' hS';have s0:=hS';go_simp;try with_reducible rfl
 try simp only[zA]
 refine Qah 8 (.slice HB l2.length hb) (some 65) rfl rfl (by kernel_rfl) (Or.inl ⟨by rfl,?ysc9⟩) hH ?rsc9
 case ysc9=>intro w' hS';have s0:=hS';go_simp;try with_reducible rfl
 try simp only[zA]
 refine oneH 9 (oi:=_) (some 66) (by kernel_rfl) rfl rfl rfl (fun K' hK=>?_)
 refine⟨?_⟩
 rw[if_pos (by rfl)]
 go_simp
 refine(MR.out).mono ?_
 rintro e w9 ⟨m,V3,v3,V4,v4,rfl,bm,rm,apm,hbl⟩
 have hw0:w9.cell? ⟨g,0,none⟩=some (.int .i64 b.width):=bm.cell 0
 refine hK.out _ _ ⟨_,rfl⟩ (hw0) (fun hH2=>?_)
 clear hK K' hH MR
 have hH:=hH2
 clear hH2
 try simp only[zB]
 clear hH
 refine wpAnyH_done (by kernel_rfl) ?_ _
 obtain⟨ms,hms⟩:∃ ms,ms=Qe8 (Qjq b) (.slice A0 b.log.entries.length a0) (.slice A1 b.receipts.length a1) (.slice A2 b.heads.length a2) (.slice V3 (Qa6 b).leaves.peaks.length v3) (.slice V4 (Qa6 b).taken.peaks.length v4):=⟨_,rfl⟩
 obtain⟨hd,hhd⟩:∃ hd,hd=Qb4 b:=⟨_,rfl⟩
 rw[<-hms] at bm
 have BMH:∀(W:World),Blk W g 37 ms.toArray->W.cell? ⟨g,0,none⟩=some (.int .i64 b.width)/\W.cell? ⟨g,3,none⟩=some (.slice A2 b.heads.length a2)/\W.cell? ⟨g,8,none⟩=some (.int .i64 hd.number)/\W.cell? ⟨g,9,none⟩=some (.int .i64 hd.size)/\W.cell? ⟨g,10,none⟩=some (.string hd.root)/\W.cell? ⟨g,11,none⟩=some (.int .i64 hd.taken)/\W.cell? ⟨g,12,none⟩=some (.string hd.takenRoot):=fun W h=>by
  rw[hms] at h
  rw[hhd]
  exact⟨h.cell 0,h.cell 3,h.cell 8,h.cell 9,h.cell 10,h.cell 11,h.cell 12⟩
 have BMH:=hU BMH
 have HMS:=hU hms;have HHD:=hU hhd;have AP:=hU apm
 have WB:=hU (fun(W:World) (t:ByteArray) (ht:t.size<=maxLen) (hb:Blk W g 37 ms.toArray) (hr:Qb9 K W (Qjq b) (.slice A0 b.log.entries.length a0) (.slice A1 b.receipts.length a1) (.slice A2 b.heads.length a2) (.slice V3 (Qa6 b).leaves.peaks.length v3) (.slice V4 (Qa6 b).taken.peaks.length v4))=>Qf5 (Qjq b) 1 (by decide) t g A0 a0 A1 a1 A2 a2 V3 v3 V4 v4 W (by rw[hms] at hb;exact hb) ⟨Qb6 hr.e,Qb6 hr.r,Qb6 hr.h,Qb6 hr.p,Qb6 hr.q⟩ ⟨HK.out.e,HK.out.r,HK.out.h,Qt0 SF.out HK.out.n⟩ ht)
 clear hms hhd apm
 go_upto_region 10 with fail
 have B9:=hU bm;have R9:=hU rm;have L9:=hU hbl
 refine wp_region_held_drew (S:=fun w'=>Ext w9 w') (by kernel_rfl) (Below.refl _ _).drew (fun hH=>?_)
 clear bm rm hbl
 refine tk 0 (.pointer (some ⟨g,0,none⟩)) (some 68) hH ?_
 try simp only[zA]
 refine tk 1 (.pointer (some ⟨g,0,none⟩)) (some 69) hH ?_
 try simp only[zA]
 refine tk 2 (.pointer (some ⟨g,0,none⟩)) (some 70) hH ?_
 try simp only[zA]
 refine Qah 3 (.int .i64 b.width) (some 71) rfl rfl (by kernel_rfl) (Or.inl ⟨by rfl,?ysd4⟩) hH ?rsd4
 case ysd4=>intro w' hS';obtain⟨y0,y3,y8,y9,y10,y11,y12⟩:=BMH.out _ (B9.out.ext hS');go_simp;try with_reducible rfl
 try simp only[zA]
 refine tk 4 (.pointer (some ⟨g,0,none⟩)) (some 72) hH ?_
 try simp only[zA]
 refine tk 5 (.pointer (some ⟨g,0,none⟩)) (some 73) hH ?_
 try simp only[zA]
 refine tk 6 (.pointer (some ⟨g,4,none⟩)) (some 74) hH ?_
 try simp only[zA]
 refine tk 7 (.pointer (some ⟨g,8,none⟩)) (some 75) hH ?_
 try simp only[zA]
 refine Qah 8 (.agg #[.int .i64 hd.number,.int .i64 hd.size,.string hd.root,.int .i64 hd.taken,.string hd.takenRoot]) (some 76) rfl rfl (by kernel_rfl) (Or.inl ⟨by rfl,?ysd9⟩) hH ?rsd9
 case ysd9=>intro w' hS';obtain⟨y0,y3,y8,y9,y10,y11,y12⟩:=BMH.out _ (B9.out.ext hS');go_simp;try with_reducible rfl
 try simp only[zA]
 refine oneH 9 (oi:=_) (some 77) (by kernel_rfl) rfl rfl rfl (fun K' hK=>?_)
 refine⟨?_⟩
 rw[if_pos (by rfl)]
 go_simp
 refine(Qhv b.width hd _).mono ?_
 rintro e wa ⟨rfl,h1⟩
 refine hK.out _ _ ⟨_,rfl⟩ (hH.next h1) (fun hH2=>?_)
 clear hK K' hH h1
 have hH:=hH2
 clear hH2
 try simp only[zB]
 refine Qah 10 (.tuple #[.string (Qa4 b.width hd),.bool (Qbc b.width hd)]) (some 67) rfl rfl (by kernel_rfl) (Or.inl ⟨by rfl,?ysd10⟩) hH ?rsd10
 case ysd10=>intro w' hS';obtain⟨y0,y3,y8,y9,y10,y11,y12⟩:=BMH.out _ (B9.out.ext hS');go_simp;try with_reducible rfl
 try simp only[zA]
 refine Qah 11 (.string (Qa4 b.width hd)) (some 78) rfl rfl (by kernel_rfl) (Or.inl ⟨by rfl,?ysd11⟩) hH ?rsd11
 case ysd11=>intro w' hS';obtain⟨y0,y3,y8,y9,y10,y11,y12⟩:=BMH.out _ (B9.out.ext hS');go_simp;try with_reducible rfl
 try simp only[zA]
 refine tk 12 (.bool (Qbc b.width hd)) (some 79) hH ?_
 try simp only[zA]
 refine Qah 13 (.string (Qa4 b.width hd)) (some 9) rfl rfl (by kernel_rfl) (Or.inl ⟨by rfl,?ysd13⟩) hH ?rsd13
 case ysd13=>intro w' hS';obtain⟨y0,y3,y8,y9,y10,y11,y12⟩:=BMH.out _ (B9.out.ext hS');go_simp;try with_reducible rfl
 try simp only[zA]
 refine tk 14 (.bool (Qbc b.width hd)) (some 10) hH ?_
 try simp only[zA]
 have h1:=hH
 clear hH
 refine wpAnyH_done (by kernel_rfl) ?_ _
 have bm:=B9.out.ext h1;have rm:=R9.out.ext h1;have hbl:=Qk7 L9.out h1 (by have:=L9.out.size;omega)
 clear h1 B9 R9 L9
 obtain⟨tx,htx⟩:∃ tx,tx=Qa4 b.width hd:=⟨_,rfl⟩
 rw[<-htx]
 have HTX:=hU htx
 clear htx
 go_wp2_with fail
 refine(WB.out _ tx (by rw[HTX.out];exact Qcx (Qjx _ _)) bm rm).mono ?_
 rintro e wb ⟨vw,rfl,ow,h1⟩
 have kwa:K<=wa.heap.size:=Nat.le_trans hKw hbl.size
 have ow:=Qaj (B':=K) ow kwa
 replace bm:=bm.ext h1;replace rm:=rm.ext h1;replace hbl:=Qk7 hbl h1 kwa
 clear h1 WB kwa
 go_upto_region 12 with fail
 refine wp_region_any (by kernel_rfl) ?_
 change wpAny _ _ _ _ _ _ _ (World.drew _)
 refine Qgi (i:=0) (oi:=_) (v:=.pointer (some ⟨g,0,none⟩)) (some 83) rfl rfl (by kernel_rfl) (by kernel_rfl) (by kernel_rfl) (fun _ a b _ e h=>by cases a;cases b;cases e;exact h) (Or.inl ⟨by rfl,?x0_⟩) ?rx0_
 case x0_=>intro w';go_simp;try with_reducible rfl
 try simp only[zA]
 refine Qgi (i:=1) (oi:=_) (v:=.pointer (some ⟨g,0,none⟩)) (some 84) rfl rfl (by kernel_rfl) (by kernel_rfl) (by kernel_rfl) (fun _ a b _ e h=>by cases a;cases b;cases e;exact h) (Or.inl ⟨by rfl,?x1_⟩) ?rx1_
 case x1_=>intro w';go_simp;try with_reducible rfl
 try simp only[zA]
 refine Qgi (i:=2) (oi:=_) (v:=.pointer (some ⟨g,0,none⟩)) (some 85) rfl rfl (by kernel_rfl) (by kernel_rfl) (by kernel_rfl) (fun _ a b _ e h=>by cases a;cases b;cases e;exact h) (Or.inl ⟨by rfl,?x2_⟩) ?rx2_
 case x2_=>intro w';go_simp;try with_reducible rfl
 try simp only[zA]
 refine Qgi (i:=3) (oi:=_) (v:=.pointer (some ⟨g,3,none⟩)) (some 86) rfl rfl (by kernel_rfl) (by kernel_rfl) (by kernel_rfl) (fun _ a b _ e h=>by cases a;cases b;cases e;exact h) (Or.inl ⟨by rfl,?x3_⟩) ?rx3_
 case x3_=>intro w';go_simp;try with_reducible rfl
 try simp only[zA]
 refine Qgi (i:=5) (oi:=_) (v:=.pointer (some ⟨g,0,none⟩)) (some 88) rfl rfl (by kernel_rfl) (by kernel_rfl) (by kernel_rfl) (fun _ a b _ e h=>by cases a;cases b;cases e;exact h) (Or.inl ⟨by rfl,?x5_⟩) ?rx5_
 case x5_=>intro w';go_simp;try with_reducible rfl
 try simp only[zA]
 refine Qgi (i:=6) (oi:=_) (v:=.pointer (some ⟨g,0,none⟩)) (some 89) rfl rfl (by kernel_rfl) (by kernel_rfl) (by kernel_rfl) (fun _ a b _ e h=>by cases a;cases b;cases e;exact h) (Or.inl ⟨by rfl,?x6_⟩) ?rx6_
 case x6_=>intro w';go_simp;try with_reducible rfl
 try simp only[zA]
 refine Qgi (i:=7) (oi:=_) (v:=.pointer (some ⟨g,4,none⟩)) (some 90) rfl rfl (by kernel_rfl) (by kernel_rfl) (by kernel_rfl) (fun _ a b _ e h=>by cases a;cases b;cases e;exact h) (Or.inl ⟨by rfl,?x7_⟩) ?rx7_
 case x7_=>intro w';go_simp;try with_reducible rfl
 try simp only[zA]
 refine Qgi (i:=8) (oi:=_) (v:=.pointer (some ⟨g,8,none⟩)) (some 91) rfl rfl (by kernel_rfl) (by kernel_rfl) (by kernel_rfl) (fun _ a b _ e h=>by cases a;cases b;cases e;exact h) (Or.inl ⟨by rfl,?x8_⟩) ?rx8_
 case x8_=>intro w';go_simp;try with_reducible rfl
 try simp only[zA]
 refine Qjj [(4,some 87),(9,some 92),(10,some 93)] (fun i v w'=>match i with
  | 4=>v=.slice A2 b.heads.length a2
  | 9=>v=.agg #[.int .i64 hd.number,.int .i64 hd.size,.string hd.root,.int .i64 hd.taken,.string hd.takenRoot]
  | 10=>∃ Q,v=.slice (some ⟨Q,0,none⟩) 1 1/\Blk w' Q 33 #[.int .i64 hd.number,.int .i64 hd.size,.string hd.root,.int .i64 hd.taken,.string hd.takenRoot]
  | _=>True) (fun w'=>Blk w' g 37 ms.toArray/\Qb9 K w' (Qjq b) (.slice A0 b.log.entries.length a0) (.slice A1 b.receipts.length a1) (.slice A2 b.heads.length a2) (.slice V3 (Qa6 b).leaves.peaks.length v3) (.slice V4 (Qa6 b).taken.peaks.length v4)/\w'.ownsRow K 50 3 vw 1 (Qcs (Qjq b) 1 tx).cells/\Below K w w') (fun w1 w2=>Ext w1 w2) (n:=4) (by kernel_rfl) (by rfl) (fun _ a b _ e h=>by cases a;cases b;cases e;exact h) ?hR ⟨bm.drew,rm.ext (Below.refl _ _).drew,Qag ow (Below.refl _ _).drew,Qk7 hbl (Below.refl _ _).drew (Nat.le_trans hKw hbl.size)⟩ ?hst ?hend
 case hR=>
  intro j v wa wb hx h
  split
  · exact h
  · exact h
  · obtain⟨Q,h1,h2⟩:=h;exact⟨Q,h1,h2.ext hx⟩
  · trivial
 case hst=>
  clear bm rm ow hbl
  refine Qbo.cons [] (o:=_) rfl rfl rfl (by kernel_rfl) (fun vals u hv hS K' hK=>?_) ?_
  · clear hv
    obtain⟨y0,y3,y8,y9,y10,y11,y12⟩:=BMH.out _ hS.1
    refine⟨?_⟩
    (try simp only[zB] at hK ⊢)
    go_simp
    exact hK.out _ _ ⟨_,rfl,rfl⟩ hS (Below.refl _ _)
  refine Qbo.cons [] (o:=_) rfl rfl rfl (by kernel_rfl) (fun vals u hv hS K' hK=>?_) ?_
  · clear hv
    obtain⟨y0,y3,y8,y9,y10,y11,y12⟩:=BMH.out _ hS.1
    refine⟨?_⟩
    (try simp only[zB] at hK ⊢)
    go_simp
    exact hK.out _ _ ⟨_,rfl,rfl⟩ hS (Below.refl _ _)
  refine Qbo.cons [9] (o:=_) rfl rfl rfl (by kernel_rfl) (fun vals u hv hS K' hK=>?_) ?_
  · obtain⟨hv,_⟩:=hv
    have h1:=Ext.new (Below.refl u.heap.size u) (.cells #[.int .i64 hd.number,.int .i64 hd.size,.string hd.root,.int .i64 hd.taken,.string hd.takenRoot] 33)
    have F:=hK.out _ (u.alloc (.cells #[.int .i64 hd.number,.int .i64 hd.size,.string hd.root,.int .i64 hd.taken,.string hd.takenRoot] 33)) ⟨_,rfl,u.heap.size,rfl,Blk.new _ _ _⟩ ⟨hS.1.ext h1,hS.2.1.ext h1,Qag hS.2.2.1 h1,Qk7 hS.2.2.2 h1 (Nat.le_trans hKw hS.2.2.2.size)⟩ h1
    refine⟨?_⟩
    (try simp only[zB] at hK F ⊢)
    simp only at hv
    rw[hv] at hK F ⊢
    clear hv
    go_simp
    exact F
  exact Qbo.nil
 case hend=>
  clear bm rm ow hbl
  intro vals w8_ hv hS
  obtain⟨hv4,hv9,⟨Q,hv10,bq⟩,_⟩:=hv
  simp only at hv4 hv9 hv10
  try simp only[zB]
  rw[hv4,hv9,hv10]
  clear hv4 hv9 hv10
  obtain⟨g8,rx,ow,hbl⟩:=hS
  have kw8:K<=w8_.heap.size:=Nat.le_trans hKw hbl.size
  refine oneA 11 (oi:=_) (some 94) (by kernel_rfl) rfl rfl rfl (fun K' hK=>?_)
  refine⟨?_⟩;rw[if_pos (by rfl)]
  refine Qem _ _ _ 28 (by rfl) K 33 i0 _ 5 56 Tryz.underlying28 hi hz0 hz1 hz2 rfl (by decide) (.slice A2 b.heads.length a2) b.heads.length (b.heads.flatMap Qak.cells) (by rfl) rx.h ⟨Q,0,none⟩ 1 1 [.int .i64 hd.number,.int .i64 hd.size,.string hd.root,.int .i64 hd.taken,.string hd.takenRoot] (by rfl) (by rfl) bq.adds (by intro u hu;simp at hu;rcases hu with rfl|rfl|rfl|rfl|rfl <;> rfl) ?_ ?_ kw8 (fun v' w9_ ho hf hm=>?_)
  · have:=HK.out.n.h;unfold maxLen;omega
  · have:=HK.out.n.h;omega
  obtain⟨V1,v1,rfl,_⟩:=Qae ho
  have g9:Blk w9_ g 37 (Qe8 (Qjq b) (.slice A0 b.log.entries.length a0) (.slice A1 b.receipts.length a1) (.slice A2 b.heads.length a2) (.slice V3 (Qa6 b).leaves.peaks.length v3) (.slice V4 (Qa6 b).taken.peaks.length v4)).toArray:=by
   have h:=hf.blk g8 (fun e=>Qew rx.h g8 (by decide) _ e rfl)
   rw[HMS.out] at h;exact h
  have fe:=hf.own rx.e (fun y hy e2=>Qbq rx.e rx.h (by decide) y hy e2)
  have fr:=hf.own rx.r (fun y hy e2=>Qbq rx.r rx.h (by decide) y hy e2)
  have fp:=hf.own rx.p (fun y hy e2=>Qbq rx.p rx.h (by decide) y hy e2)
  have fq:=hf.own rx.q (fun y hy e2=>Qbq rx.q rx.h (by decide) y hy e2)
  have fw:=hf.own ow (fun y hy e2=>Qbq ow rx.h (by decide) y hy e2)
  have fh:w9_.ownsRow K 33 5 (.slice V1 (b.heads.length+1) v1) (slB b).heads.length ((slB b).heads.flatMap Qak.cells):=by
   have e1:(slB b).heads.length=b.heads.length+1:=by simp[slB]
   have e2:(slB b).heads.flatMap Qak.cells=b.heads.flatMap Qak.cells++[.int .i64 hd.number,.int .i64 hd.size,.string hd.root,.int .i64 hd.taken,.string hd.takenRoot]:=by rw[HHD.out];simp[slB,Qak.cells]
   rw[e1,e2];exact ho
  have bl:Below K w w9_:=Qyf hbl hf (fun y hy=>(rx.h.lt y hy).1) kw8
  have z1:=g9.put 3 [.slice V1 (b.heads.length+1) v1] (Qe8 (slB b) (.slice A0 b.log.entries.length a0) (.slice A1 b.receipts.length a1) (.slice V1 (b.heads.length+1) v1) (.slice V3 (Qa6 b).leaves.peaks.length v3) (.slice V4 (Qa6 b).taken.peaks.length v4)).toArray (by simp[Qe8]) rfl
  have z2:Qb9 K (w9_.setCells g 3 [.slice V1 (b.heads.length+1) v1]) (slB b) (.slice A0 b.log.entries.length a0) (.slice A1 b.receipts.length a1) (.slice V1 (b.heads.length+1) v1) (.slice V3 (Qa6 b).leaves.peaks.length v3) (.slice V4 (Qa6 b).taken.peaks.length v4):=⟨Qa1 fe g9 (by decide) _ _,Qa1 fr g9 (by decide) _ _,Qa1 fh g9 (by decide) _ _,Qa1 fp g9 (by decide) _ _,Qa1 fq g9 (by decide) _ _⟩
  have z3:=Qa1 fw g9 (by decide) [.slice V1 (b.heads.length+1) v1] 3
  have z4:Below K w (w9_.setCells g 3 [.slice V1 (b.heads.length+1) v1]):=Below.setCell bl (p:=⟨g,3,none⟩) hKg _
  have Z1:=hU z1;have Z2:=hU z2;have Z3:=hU z3;have Z4:=hU z4
  have c2:w9_.cell? ⟨g,3,none⟩=some (.slice A2 b.heads.length a2):=g9.cell 3
  have f2:=g9.frozen 3
  refine hK.out _ _ ⟨_,rfl⟩ ?_
  clear hK K' hm hf ho fe fh fp fq fw fr bl z1 z2 z3 z4 rx ow hbl g8 bq g9
  try simp only[zB]
  refine Qgi (i:=12) (oi:=_) (v:=.pointer (some ⟨g,0,none⟩)) (some 95) rfl rfl (by kernel_rfl) (by kernel_rfl) (by kernel_rfl) (fun _ a b _ e h=>by cases a;cases b;cases e;exact h) (Or.inl ⟨by rfl,?x12_⟩) ?rx12_
  case x12_=>intro w';go_simp;try with_reducible rfl
  try simp only[zA]
  refine Qgi (i:=13) (oi:=_) (v:=.pointer (some ⟨g,3,none⟩)) (some 96) rfl rfl (by kernel_rfl) (by kernel_rfl) (by kernel_rfl) (fun _ a b _ e h=>by cases a;cases b;cases e;exact h) (Or.inl ⟨by rfl,?x13_⟩) ?rx13_
  case x13_=>intro w';go_simp;try with_reducible rfl
  try simp only[zA]
  refine oneA 14 (oi:=_) none (by kernel_rfl) rfl rfl rfl (fun K' hK=>?_)
  have F:=hK.out { tmps:=_,defers:=_ } (w9_.setCell ⟨g,3,none⟩ (.slice V1 (b.heads.length+1) v1)) ⟨undef,rfl⟩
  refine⟨?_⟩
  rw[if_pos (by rfl)]
  go_simp
  refine F ?_
  clear F hK K' c2 f2
  refine wpAny_done (by kernel_rfl) ?_ _
  try simp only[zB]
  go_wp2_with fail
  go_ret2
  refine⟨vw,by rw[E.out];rfl,.inr ⟨E.out,_,_,_,Z1.out,Z2.out,AP.out,?_,Z4.out⟩⟩
  have h:=Z3.out
  rw[Qss,HTX.out,HHD.out] at h
  exact h
end Go.Proofs.YtbnkjgcpjeedfaaGreat

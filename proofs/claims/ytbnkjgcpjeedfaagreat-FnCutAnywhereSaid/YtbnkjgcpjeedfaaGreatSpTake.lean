/-
  SpTake: No condition.
-/
import Derived.Test.YtbnkjgcpjeedfaaGreatSpCopy
import Derived.Test.YtbnkjgcpjeedfaaGreatSpecR
import Derived.Test.YtbnkjgcpjeedfaaGreatBrkS
namespace Go.Proofs.YtbnkjgcpjeedfaaGreat
set_option maxHeartbeats 8000000
set_option maxRecDepth 100000
set_option linter.unusedSimpArgs false
open Go.RowKit
set_option linter.unusedVariables false
theorem last_le{b:Qad}(h:Qar b=true):(Qaw b.heads).size<=b.log.entries.length:=by
 have h0:=(Qbh h).2.2.2.2.2.1
 rw[Qar,Bool.and_eq_true] at h
 have p:=h.1
 simp only[Qbu,Bool.and_eq_true,decide_eq_true_eq] at p
 have h1:=Qdl.1 p.1.2 (b.heads.length-1) (by omega)
 rw[Qc0,Qgc h0] at h1
 simp only[Bool.and_eq_true,decide_eq_true_eq] at h1
 have h2:=h1.1.1.1
 rw[Qa8,List.length_map] at h2
 exact h2
theorem tk_there{b:Qad}{r:Qab}(h:Qar b=true):inR (idxB (ofTI r.topic r.index) b.log.entries) 0 ((Qaw b.heads).size-1)=decide (0<=idxB (ofTI r.topic r.index) (b.log.entries.take (Qaw b.heads).size.toNat)):=by
 rw[Qif,inR]
 have h1:=(Qqk h).2.1
 rw[show(((Qaw b.heads).size.toNat:Nat):Int)=(Qaw b.heads).size by omega]
theorem Qos(b:Qad)(r:Qab)(A0:Option Addr)(a0:Nat)(A1:Option Addr)(a1:Nat)(A2:Option Addr)(a2:Nat)(A3:Option Addr)(a3:Nat)(A4:Option Addr)(a4:Nat)(w:World)(s:BArg AnyB w b A0 a0 A1 a1 A2 a2 A3 a3 A4 a4)(hk:TxOk b)(hr:r.Ok)(hB:Qar b=true) :
 Calls Tryz.prog 96 #[.agg (brkV b A0 a0 A1 a1 A2 a2 A3 a3 A4 a4).toArray,.agg #[.string r.reader,.string r.topic,.int .i64 r.index]] w (Qol (taB b r) (taW b r) (Qcp b r) w):=by
 obtain⟨i0,hi,hz0,hz1,hz2⟩:=info_parts infR
 have hp:=Qbh hB
 have ff:=Qfl hp.2.2.1 hp.2.2.2.2.1 hp.2.2.2.2.2.2.2 2
 have fl:=Qhp (b:=b) hp.2.1 hp.2.2.2.1 hp.2.2.2.2.2.2.1 2
 have hfo:=(Qg8 fl ff).2
 have S0:=hU s;have HRo:=hU hr
 have NR:=hp.2.2.2.1
 obtain⟨lh,hlh⟩:∃ lh,lh=Qaw b.heads:=⟨_,rfl⟩
 obtain⟨m,hm⟩:∃ m,m=(Qaw b.heads).size.toNat:=⟨_,rfl⟩
 have lo:=Qqk hB;have ll:=last_le hB
 have hmE:m<=b.log.entries.length:=by omega
 obtain⟨ti,hti⟩:∃ ti,ti=idxB (ofTI r.topic r.index) (b.log.entries.take m):=⟨_,rfl⟩
 have TC:=hU (show Qcp b r=Qee b r by rw[Qcp,hB];rfl)
 have TT:=hU (show inR (idxB (ofTI r.topic r.index) b.log.entries) 0 ((Qaw b.heads).size-1)=decide (0<=ti) by rw[hti,hm];exact tk_there hB)
 have LF:Hid (∀ W,Ext w W->Calls Tryz.prog 166 #[.slice A0 m a0,.string r.topic,.int .i64 r.index] W fun e w'=>e=.returned (.int .i64 ti)/\Ext W w'):=hU (fun W hW=>by
  have e1:(b.log.entries.take m).length=m:=by rw[List.length_take];omega
  have h:=Qs9 A0 a0 (b.log.entries.take m) r.topic r.index W (Qpd Qaf.cells_length (s.ext hW).e.reads m hmE) (by have:=hk.n.e;omega)
  rw[e1] at h
  rw[hti]
  refine h.mono ?_
  rintro e w' ⟨h1,rfl⟩
  exact⟨h1,Below.refl _ _⟩)
 have LW:Hid (∀(W:World) (hW:Ext w W),Calls Tryz.prog 165 #[.agg (brkV b A0 a0 A1 a1 A2 a2 A3 a3 A4 a4).toArray,.int .i64 2,.string (Qan r)] W fun e w'=>∃ v,e=.returned v/\w'.ownsRow W.heap.size 50 3 v 1 (Qcs b 2 (Qan r)).cells/\Ext W w'):=hU (fun W hW=>Qic b 2 (by decide) (Qan r) A0 a0 A1 a1 A2 a2 A3 a3 A4 a4 W (s.ext hW) hk (by omega) (fun t ht=>Qcx (by have:=(ff t ht).2;omega)) hfo (Qcx (Qco r)))
 have CB:Hid (∀(W:World) (hW:Ext w W),Calls Tryz.prog 164 #[.agg (brkV b A0 a0 A1 a1 A2 a2 A3 a3 A4 a4).toArray] W fun e w'=>∃ V0 v0 V1 v1 V2 v2 V3 v3 V4 v4,e=.returned (.agg (brkV b V0 v0 V1 v1 V2 v2 V3 v3 V4 v4).toArray)/\Qb9 W.heap.size w' b (.slice V0 b.log.entries.length v0) (.slice V1 b.receipts.length v1) (.slice V2 b.heads.length v2) (.slice V3 b.sealed.leaves.peaks.length v3) (.slice V4 b.sealed.taken.peaks.length v4)/\(∀ x,(Value.slice V3 b.sealed.leaves.peaks.length v3).ownBlock=some x->(Value.slice V4 b.sealed.taken.peaks.length v4).ownBlock≠some x)/\Ext W w'):=hU (fun W hW=>Qju b A0 a0 A1 a1 A2 a2 A3 a3 A4 a4 W (s.ext hW) hk.n)
 have AT:=hU (fun(W:World) (hW:Ext w W)=>Qxw A1 a1 b.receipts r W (s.ext hW).r.reads hk.n.r)
 have SL:=hU (fun W=>run_pre (P:=Tryz.prog) (t:=24) A0 b.log.entries.length a0 m 5 Tryz.underlying24 (fun W=>by kernel_rfl) (by have:=s.e.le;omega) (x:=lh.size) (by rw[hlh,hm];omega) W)
 obtain⟨cs,hcs⟩:∃ cs,cs=(brkV b A0 a0 A1 a1 A2 a2 A3 a3 A4 a4):=⟨_,rfl⟩
 have HL13:=hU (show cs.length=13 by rw[hcs];rfl)
 obtain⟨n0,hn0⟩:∃ n0,n0=b.log.entries.length:=⟨_,rfl⟩
 obtain⟨n1,hn1⟩:∃ n1,n1=b.receipts.length:=⟨_,rfl⟩
 have LL:Hid (∀(W:World) (hW:Ext w W),Calls Tryz.prog 123 #[.agg cs.toArray] W fun e w'=>e=.returned (.agg #[.int .i64 lh.number,.int .i64 lh.size,.string lh.root,.int .i64 lh.taken,.string lh.takenRoot])/\Ext W w'):=hU (fun W hW=>by
  rw[hlh];exact Qng cs A2 a2 b.heads W HL13.out (by rw[hcs];rfl) (s.ext hW).h.reads hk.h hk.n.h)
 have BH:∀(W:World) (g:Nat),Blk W g 37 cs.toArray->W.cell? ⟨g,1,none⟩=some (.slice A0 n0 a0)/\W.cell? ⟨g,2,none⟩=some (.slice A1 n1 a1):=fun W g h=>by
  rw[hcs] at h
  rw[hn0,hn1]
  exact⟨h.cell 1,h.cell 2⟩
 have BH:=hU BH
 rw[<-hcs] at LW CB
 rw[<-hn0] at SL
 rw[<-hn1] at AT NR
 rw[<-hcs]
 have HN1:=hU hn1
 have FD:∀ W:World,(Instr.field 33 (.agg #[.int .i64 lh.number,.int .i64 lh.size,.string lh.root,.int .i64 lh.taken,.string lh.takenRoot]) 1).run Tryz.prog W=.ok (.int .i64 lh.size) W:=fun _=>by kernel_rfl
 have HKN:=hU hk.n.r
 clear s hk hr hB hp ff fl hfo hcs lo ll hmE hm hlh hti hn0 hn1
 obtain⟨B1,B2,B3,he⟩:=Qo5 w cs.toArray #[.string r.reader,.string r.topic,.int .i64 r.index] #[.int .i64 0,.slice none 0 0,.slice none 0 0,.slice none 0 0,.int .i64 0,.slice none 0 0,.int .i64 0,.slice none 0 0,.int .i64 0,.int .i64 0,.string ⟨#[]⟩,.int .i64 0,.string ⟨#[]⟩] 37 42 37
 obtain⟨g1,hg1⟩:∃ g1,g1=w.heap.size:=⟨_,rfl⟩
 obtain⟨g2,hg2⟩:∃ g2,g2=w.heap.size+1:=⟨_,rfl⟩
 obtain⟨g3,hg3⟩:∃ g3,g3=w.heap.size+1+1:=⟨_,rfl⟩
 go_enter Tryz.func96,Tryz.ntmps96
 go_upto_region 1 with fail
 obtain⟨w3,hw3⟩:∃ w3,w3=((w.alloc (.cells cs.toArray 37)).alloc (.cells #[.string r.reader,.string r.topic,.int .i64 r.index] 42)).alloc (.cells #[.int .i64 0,.slice none 0 0,.slice none 0 0,.slice none 0 0,.int .i64 0,.slice none 0 0,.int .i64 0,.slice none 0 0,.int .i64 0,.int .i64 0,.string ⟨#[]⟩,.int .i64 0,.string ⟨#[]⟩] 37):=⟨_,rfl⟩
 rw[<-hw3] at B1 B2 B3 he
 rw[<-hw3]
 rw[<-hg3] at B3
 rw[<-hg2] at B2
 rw[<-hg1] at B1
 rw[<-hg3,<-hg2,<-hg1]
 have h13:g1<g3:=by omega
 have h23:g2<g3:=by omega
 have hw:w.heap.size<=g3:=by omega
 clear hw3 hg1 hg2 hg3
 obtain⟨r2,f2⟩:=B2.rules
 go_wp2_with fail
 refine(Qey r _ HRo.out).mono ?_
 rintro e w4 ⟨rfl,h1⟩
 replace he:=he.next h1;replace B1:=B1.ext h1;replace B2:=B2.ext h1;replace B3:=B3.ext h1
 clear h1 r2 f2
 cases p1:Qau r
 · have E:=hU (show Qcp b r=2 by rw[TC.out,tk2 p1])
   clear FD
   have hxa:=Ext.new (Below.refl w4.heap.size w4) (.cells #[] 50)
   have B3a:=B3.ext hxa;have hea:=he.next hxa
   have T4:=hU (B3a.there 0 13 (by simp))
   obtain⟨wz,hwz,hz,hx,ho⟩:∃ wz,wz=(w4.alloc (.cells #[] 50)).setCells g3 0 [.int .i64 0,.slice none 0 0,.slice none 0 0,.slice none 0 0,.int .i64 0,.slice none 0 0,.int .i64 0,.slice none 0 0,.int .i64 0,.int .i64 0,.string ⟨#[]⟩,.int .i64 0,.string ⟨#[]⟩]/\Blk wz g3 37 #[.int .i64 0,.slice none 0 0,.slice none 0 0,.slice none 0 0,.int .i64 0,.slice none 0 0,.int .i64 0,.slice none 0 0,.int .i64 0,.int .i64 0,.string ⟨#[]⟩,.int .i64 0,.string ⟨#[]⟩]/\Ext w wz/\wz.ownsRow w.heap.size 50 3 (.slice (some ⟨w4.heap.size,0,none⟩) 0 0) 0 []:=⟨_,rfl,Qas B3a [.int .i64 0,.slice none 0 0,.slice none 0 0,.slice none 0 0,.int .i64 0,.slice none 0 0,.int .i64 0,.slice none 0 0,.int .i64 0,.int .i64 0,.string ⟨#[]⟩,.int .i64 0,.string ⟨#[]⟩] rfl,Qaa hw [.int .i64 0,.slice none 0 0,.slice none 0 0,.slice none 0 0,.int .i64 0,.slice none 0 0,.int .i64 0,.slice none 0 0,.int .i64 0,.int .i64 0,.string ⟨#[]⟩,.int .i64 0,.string ⟨#[]⟩] 0 _ hea,Qa2 (Qbd w4 50 3) B3.lt he.size [.int .i64 0,.slice none 0 0,.slice none 0 0,.slice none 0 0,.int .i64 0,.slice none 0 0,.int .i64 0,.slice none 0 0,.int .i64 0,.int .i64 0,.string ⟨#[]⟩,.int .i64 0,.string ⟨#[]⟩] 0⟩
   have HW:=hU hwz;have Z4:=hU hz;have X4:=hU hx;have OZ:=hU ho
   clear hwz hz hx ho hxa B3a hea B3 he
   go_wp2_with (refine Qac rfl 37 _ _ rfl rfl g3 0 [.int .i64 0,.slice none 0 0,.slice none 0 0,.slice none 0 0,.int .i64 0,.slice none 0 0,.int .i64 0,.slice none 0 0,.int .i64 0,.int .i64 0,.string ⟨#[]⟩,.int .i64 0,.string ⟨#[]⟩] rfl rfl T4.out (by kernel_rfl) (by rfl) ?_;rw[<-HW.out])
   exact Qd6 rfl rfl Z4.out Tryz.underlying37 rfl (by kernel_rfl) rfl (Qo7 E.out (by decide) rfl OZ.out X4.out)
 go_upto_region 4 with fail
 refine wp_region_held_drew (S:=fun w'=>Blk w' g1 37 cs.toArray/\Blk w' g2 42 #[.string r.reader,.string r.topic,.int .i64 r.index]/\Ext w4 w') (by kernel_rfl) ⟨B1.drew,B2.drew,(Below.refl _ _).drew⟩ (fun hH=>?_)
 have SLF:=SL.out
 clear B1 B2
 refine tk 0 (.pointer (some ⟨g1,1,none⟩)) (some 14) hH ?_
 try simp only[zA]
 refine tk 1 (.pointer (some ⟨g1,1,none⟩)) (some 15) hH ?_
 try simp only[zA]
 refine Qah 2 (.slice A0 n0 a0) (some 16) rfl rfl (by kernel_rfl) (Or.inl ⟨by rfl,?yu3⟩) hH ?ru3
 case yu3=>intro w' hS';obtain⟨s0,s1,s2⟩:=hS';obtain⟨x1,x2⟩:=BH.out _ _ s0;obtain⟨r1,f1⟩:=s1.rules;go_simp;try with_reducible rfl
 try simp only[zA]
 refine tk 7 (.pointer (some ⟨g2,1,none⟩)) (some 21) hH ?_
 try simp only[zA]
 refine Qah 8 (.string r.topic) (some 22) rfl rfl (by kernel_rfl) (Or.inl ⟨by rfl,?yu5⟩) hH ?ru5
 case yu5=>intro w' hS';obtain⟨s0,s1,s2⟩:=hS';obtain⟨x1,x2⟩:=BH.out _ _ s0;obtain⟨r1,f1⟩:=s1.rules;go_simp;try with_reducible rfl
 try simp only[zA]
 refine tk 9 (.pointer (some ⟨g2,2,none⟩)) (some 23) hH ?_
 try simp only[zA]
 refine Qah 10 (.int .i64 r.index) (some 24) rfl rfl (by kernel_rfl) (Or.inl ⟨by rfl,?yu7⟩) hH ?ru7
 case yu7=>intro w' hS';obtain⟨s0,s1,s2⟩:=hS';obtain⟨x1,x2⟩:=BH.out _ _ s0;obtain⟨r1,f1⟩:=s1.rules;go_simp;try with_reducible rfl
 try simp only[zA]
 refine wpAnyH_take (i:=3) (oi:=_) (v:=_) rfl (by kernel_rfl) (by kernel_rfl) (by kernel_rfl) (fun _ _ _ h=>h) (yieldsIf_load_mid (by rfl) 37 _ rfl g1 0 rfl cs _ (fun w' h=>Blk.range h.1) Tryz.underlying37 rfl (by rw[HL13.out];kernel_rfl)) hH ?_
 try simp only[zB]
 refine oneH 4 (oi:=_) (some 18) (by kernel_rfl) rfl rfl rfl (fun K' hK=>?_)
 refine⟨?_⟩
 rw[if_pos (by rfl)]
 go_simp
 refine(LL.out _ (he.next hH.2.2)).mono ?_
 rintro e w5 ⟨rfl,h1⟩
 refine hK.out _ _ ⟨_,rfl⟩ (⟨hH.1.ext h1,hH.2.1.ext h1,hH.2.2.next h1⟩) (fun hH2=>?_)
 clear hK K' hH h1
 have hH:=hH2
 clear hH2
 try simp only[zB]
 refine Qah 5 (.int .i64 lh.size) (some 19) rfl rfl (by kernel_rfl) (Or.inl ⟨by rfl,?yu8⟩) hH ?ru8
 case yu8=>intro w' hS';obtain⟨s0,s1,s2⟩:=hS';obtain⟨x1,x2⟩:=BH.out _ _ s0;obtain⟨r1,f1⟩:=s1.rules;go_simp;try with_reducible rfl
 try simp only[zA]
 refine Qah 6 (.slice A0 m a0) (some 20) rfl rfl (by kernel_rfl) (Or.inl ⟨by rfl,?yu9⟩) hH ?ru9
 case yu9=>intro w' hS';obtain⟨s0,s1,s2⟩:=hS';obtain⟨x1,x2⟩:=BH.out _ _ s0;obtain⟨r1,f1⟩:=s1.rules;go_simp;try with_reducible rfl
 try simp only[zA]
 refine oneH 11 (oi:=_) (some 25) (by kernel_rfl) rfl rfl rfl (fun K' hK=>?_)
 refine⟨?_⟩
 rw[if_pos (by rfl)]
 go_simp
 refine(LF.out _ (he.next hH.2.2)).mono ?_
 rintro e w6 ⟨rfl,h1⟩
 refine hK.out _ _ ⟨_,rfl⟩ (⟨hH.1.ext h1,hH.2.1.ext h1,hH.2.2.next h1⟩) (fun hH2=>?_)
 clear hK K' hH h1
 have hH:=hH2
 clear hH2
 try simp only[zB]
 have he6:=he.next hH.2.2;have B3_:=B3.ext hH.2.2
 by_cases p2:ti<0
 · have g0:decide (ti<0)=true:=decide_eq_true p2
   refine tk 12 (.bool true) (some 26) hH ?_
   try simp only[zA]
   clear he B3 SLF FD hH
   have he:=he6;have B3:=B3_
   have E:=hU (show Qcp b r=3 by rw[TC.out,tk3 p1 (by rw[TT.out];exact decide_eq_false (by omega))])
   clear he6 B3_
   refine wpAnyH_done (by kernel_rfl) ?_ _
   have hxa:=Ext.new (Below.refl w6.heap.size w6) (.cells #[] 50)
   have B3a:=B3.ext hxa;have hea:=he.next hxa
   have T4:=hU (B3a.there 0 13 (by simp))
   obtain⟨wz,hwz,hz,hx,ho⟩:∃ wz,wz=(w6.alloc (.cells #[] 50)).setCells g3 0 [.int .i64 0,.slice none 0 0,.slice none 0 0,.slice none 0 0,.int .i64 0,.slice none 0 0,.int .i64 0,.slice none 0 0,.int .i64 0,.int .i64 0,.string ⟨#[]⟩,.int .i64 0,.string ⟨#[]⟩]/\Blk wz g3 37 #[.int .i64 0,.slice none 0 0,.slice none 0 0,.slice none 0 0,.int .i64 0,.slice none 0 0,.int .i64 0,.slice none 0 0,.int .i64 0,.int .i64 0,.string ⟨#[]⟩,.int .i64 0,.string ⟨#[]⟩]/\Ext w wz/\wz.ownsRow w.heap.size 50 3 (.slice (some ⟨w6.heap.size,0,none⟩) 0 0) 0 []:=⟨_,rfl,Qas B3a [.int .i64 0,.slice none 0 0,.slice none 0 0,.slice none 0 0,.int .i64 0,.slice none 0 0,.int .i64 0,.slice none 0 0,.int .i64 0,.int .i64 0,.string ⟨#[]⟩,.int .i64 0,.string ⟨#[]⟩] rfl,Qaa hw [.int .i64 0,.slice none 0 0,.slice none 0 0,.slice none 0 0,.int .i64 0,.slice none 0 0,.int .i64 0,.slice none 0 0,.int .i64 0,.int .i64 0,.string ⟨#[]⟩,.int .i64 0,.string ⟨#[]⟩] 0 _ hea,Qa2 (Qbd w6 50 3) B3.lt he.size [.int .i64 0,.slice none 0 0,.slice none 0 0,.slice none 0 0,.int .i64 0,.slice none 0 0,.int .i64 0,.slice none 0 0,.int .i64 0,.int .i64 0,.string ⟨#[]⟩,.int .i64 0,.string ⟨#[]⟩] 0⟩
   have HW:=hU hwz;have Z4:=hU hz;have X4:=hU hx;have OZ:=hU ho
   clear hwz hz hx ho hxa B3a hea B3 he
   go_wp2_with (refine Qac rfl 37 _ _ rfl rfl g3 0 [.int .i64 0,.slice none 0 0,.slice none 0 0,.slice none 0 0,.int .i64 0,.slice none 0 0,.int .i64 0,.slice none 0 0,.int .i64 0,.int .i64 0,.string ⟨#[]⟩,.int .i64 0,.string ⟨#[]⟩] rfl rfl T4.out (by kernel_rfl) (by rfl) ?_;rw[<-HW.out])
   exact Qd6 rfl rfl Z4.out Tryz.underlying37 rfl (by kernel_rfl) rfl (Qo7 E.out (by decide) rfl OZ.out X4.out)
 have g0:decide (ti<0)=false:=decide_eq_false p2
 refine tk 12 (.bool false) (some 26) hH ?_
 try simp only[zA]
 have B1:=hH.1;have B2:=hH.2.1
 clear he B3 SLF FD hH
 have he:=he6;have B3:=B3_
 clear he6 B3_
 refine wpAnyH_done (by kernel_rfl) ?_ _
 obtain⟨x1,x2⟩:=BH.out _ _ B1
 obtain⟨r2,f2⟩:=B2.rules
 go_wp2_with fail
 refine(AT.out _ he).mono ?_
 rintro e w7 ⟨rfl,h1⟩
 obtain⟨qi,hqi⟩:∃ qi,qi=idxB (fun x:Qab=>x.eqb r) b.receipts:=⟨_,rfl⟩
 rw[<-hqi]
 have HQI:=hU hqi
 replace he:=he.next h1;replace B1:=B1.ext h1;replace B2:=B2.ext h1;replace B3:=B3.ext h1
 clear h1 r2 f2 x1 x2 hqi g0 AT
 have TT2:=hU (show inR (idxB (ofTI r.topic r.index) b.log.entries) 0 ((Qaw b.heads).size-1)=true by rw[TT.out];exact decide_eq_true (by omega))
 by_cases p3:0<=qi
 · have g0:decide (0<=qi)=true:=decide_eq_true p3
   have E:=hU (show Qcp b r=4 by rw[TC.out,tk4 p1 TT2.out (by rw[<-HQI.out];exact p3)])
   have hxa:=Ext.new (Below.refl w7.heap.size w7) (.cells #[] 50)
   have B3a:=B3.ext hxa;have hea:=he.next hxa
   have T4:=hU (B3a.there 0 13 (by simp))
   obtain⟨wz,hwz,hz,hx,ho⟩:∃ wz,wz=(w7.alloc (.cells #[] 50)).setCells g3 0 [.int .i64 0,.slice none 0 0,.slice none 0 0,.slice none 0 0,.int .i64 0,.slice none 0 0,.int .i64 0,.slice none 0 0,.int .i64 0,.int .i64 0,.string ⟨#[]⟩,.int .i64 0,.string ⟨#[]⟩]/\Blk wz g3 37 #[.int .i64 0,.slice none 0 0,.slice none 0 0,.slice none 0 0,.int .i64 0,.slice none 0 0,.int .i64 0,.slice none 0 0,.int .i64 0,.int .i64 0,.string ⟨#[]⟩,.int .i64 0,.string ⟨#[]⟩]/\Ext w wz/\wz.ownsRow w.heap.size 50 3 (.slice (some ⟨w7.heap.size,0,none⟩) 0 0) 0 []:=⟨_,rfl,Qas B3a [.int .i64 0,.slice none 0 0,.slice none 0 0,.slice none 0 0,.int .i64 0,.slice none 0 0,.int .i64 0,.slice none 0 0,.int .i64 0,.int .i64 0,.string ⟨#[]⟩,.int .i64 0,.string ⟨#[]⟩] rfl,Qaa hw [.int .i64 0,.slice none 0 0,.slice none 0 0,.slice none 0 0,.int .i64 0,.slice none 0 0,.int .i64 0,.slice none 0 0,.int .i64 0,.int .i64 0,.string ⟨#[]⟩,.int .i64 0,.string ⟨#[]⟩] 0 _ hea,Qa2 (Qbd w7 50 3) B3.lt he.size [.int .i64 0,.slice none 0 0,.slice none 0 0,.slice none 0 0,.int .i64 0,.slice none 0 0,.int .i64 0,.slice none 0 0,.int .i64 0,.int .i64 0,.string ⟨#[]⟩,.int .i64 0,.string ⟨#[]⟩] 0⟩
   have HW:=hU hwz;have Z4:=hU hz;have X4:=hU hx;have OZ:=hU ho
   clear hwz hz hx ho hxa B3a hea B3 he
   go_wp2_with (refine Qac rfl 37 _ _ rfl rfl g3 0 [.int .i64 0,.slice none 0 0,.slice none 0 0,.slice none 0 0,.int .i64 0,.slice none 0 0,.int .i64 0,.slice none 0 0,.int .i64 0,.int .i64 0,.string ⟨#[]⟩,.int .i64 0,.string ⟨#[]⟩] rfl rfl T4.out (by kernel_rfl) (by rfl) ?_;rw[<-HW.out])
   exact Qd6 rfl rfl Z4.out Tryz.underlying37 rfl (by kernel_rfl) rfl (Qo7 E.out (by decide) rfl OZ.out X4.out)
 have g0:decide (0<=qi)=false:=decide_eq_false p3
 obtain⟨x1,x2⟩:=BH.out _ _ B1
 by_cases p5:n1=512
 · have g1_:((n1:Int)==512)=true:=beq_iff_eq.2 (by omega)
   have E:=hU (show Qcp b r=5 by rw[TC.out,tk5 p1 TT2.out (by rw[<-HQI.out];exact p3) (by rw[<-HN1.out];omega)])
   have HP5:=hU p5
   clear p5
   have hxa:=Ext.new (Below.refl w7.heap.size w7) (.cells #[] 50)
   have B3a:=B3.ext hxa;have hea:=he.next hxa
   have T4:=hU (B3a.there 0 13 (by simp))
   obtain⟨wz,hwz,hz,hx,ho⟩:∃ wz,wz=(w7.alloc (.cells #[] 50)).setCells g3 0 [.int .i64 0,.slice none 0 0,.slice none 0 0,.slice none 0 0,.int .i64 0,.slice none 0 0,.int .i64 0,.slice none 0 0,.int .i64 0,.int .i64 0,.string ⟨#[]⟩,.int .i64 0,.string ⟨#[]⟩]/\Blk wz g3 37 #[.int .i64 0,.slice none 0 0,.slice none 0 0,.slice none 0 0,.int .i64 0,.slice none 0 0,.int .i64 0,.slice none 0 0,.int .i64 0,.int .i64 0,.string ⟨#[]⟩,.int .i64 0,.string ⟨#[]⟩]/\Ext w wz/\wz.ownsRow w.heap.size 50 3 (.slice (some ⟨w7.heap.size,0,none⟩) 0 0) 0 []:=⟨_,rfl,Qas B3a [.int .i64 0,.slice none 0 0,.slice none 0 0,.slice none 0 0,.int .i64 0,.slice none 0 0,.int .i64 0,.slice none 0 0,.int .i64 0,.int .i64 0,.string ⟨#[]⟩,.int .i64 0,.string ⟨#[]⟩] rfl,Qaa hw [.int .i64 0,.slice none 0 0,.slice none 0 0,.slice none 0 0,.int .i64 0,.slice none 0 0,.int .i64 0,.slice none 0 0,.int .i64 0,.int .i64 0,.string ⟨#[]⟩,.int .i64 0,.string ⟨#[]⟩] 0 _ hea,Qa2 (Qbd w7 50 3) B3.lt he.size [.int .i64 0,.slice none 0 0,.slice none 0 0,.slice none 0 0,.int .i64 0,.slice none 0 0,.int .i64 0,.slice none 0 0,.int .i64 0,.int .i64 0,.string ⟨#[]⟩,.int .i64 0,.string ⟨#[]⟩] 0⟩
   have HW:=hU hwz;have Z4:=hU hz;have X4:=hU hx;have OZ:=hU ho
   clear hwz hz hx ho hxa B3a hea B3 he
   go_wp2_with (refine Qac rfl 37 _ _ rfl rfl g3 0 [.int .i64 0,.slice none 0 0,.slice none 0 0,.slice none 0 0,.int .i64 0,.slice none 0 0,.int .i64 0,.slice none 0 0,.int .i64 0,.int .i64 0,.string ⟨#[]⟩,.int .i64 0,.string ⟨#[]⟩] rfl rfl T4.out (by kernel_rfl) (by rfl) ?_;rw[<-HW.out])
   exact Qd6 rfl rfl Z4.out Tryz.underlying37 rfl (by kernel_rfl) rfl (Qo7 E.out (by decide) rfl OZ.out X4.out)
 have g1_:((n1:Int)==512)=false:=beq_false_of_ne (by omega)
 have E:=hU (show Qcp b r=0 by rw[TC.out,tk0 p1 TT2.out (by rw[<-HQI.out];exact p3) (by rw[<-HN1.out];omega)])
 obtain⟨r2,f2⟩:=B2.rules
 go_wp2_with fail
 refine(Qc1 r _ HRo.out).mono ?_
 rintro e w8 ⟨rfl,h1⟩
 replace he:=he.next h1;replace B1:=B1.ext h1;replace B2:=B2.ext h1;replace B3:=B3.ext h1
 clear h1 r2 f2 x1 x2 g0 g1_
 obtain⟨tx,htx⟩:∃ tx,tx=Qan r:=⟨_,rfl⟩
 rw[<-htx] at LW
 rw[<-htx]
 have HTX:=hU htx
 clear htx
 have RX:=hU (Blk.range B1)
 go_wp2_with (refine wpList_load_mid rfl 37 _ rfl g1 0 rfl cs _ RX.out Tryz.underlying37 rfl (by rw[HL13.out];kernel_rfl) ?_)
 refine(CB.out _ he).mono ?_
 rintro e w9 ⟨V0,v0,V1,v1,V2,v2,V3,v3,V4,v4,rfl,rows,ap,h1⟩
 have hK:=B3.lt
 obtain⟨K,hKe⟩:∃ K,K=w8.heap.size:=⟨_,rfl⟩
 rw[<-hKe] at rows hK
 have h89:=h1.size
 rw[<-hKe] at h89
 replace he:=he.next h1;replace B1:=B1.ext h1;replace B2:=B2.ext h1;replace B3:=B3.ext h1
 have AP:=hU ap
 clear h1 RX CB ap hKe
 obtain⟨ns,hns⟩:∃ ns,ns=brkV b V0 v0 V1 v1 V2 v2 V3 v3 V4 v4:=⟨_,rfl⟩
 have HN13:=hU (show ns.length=13 by rw[hns];rfl)
 have HNA:=hU (show ns.all (·.oneCell')=true by rw[hns];rfl)
 rw[<-hns]
 have HNS:=hU hns
 clear hns
 have KZ:=Blk.new w9 37 #[.int .i64 0,.slice none 0 0,.slice none 0 0,.slice none 0 0,.int .i64 0,.slice none 0 0,.int .i64 0,.slice none 0 0,.int .i64 0,.int .i64 0,.string ⟨#[]⟩,.int .i64 0,.string ⟨#[]⟩]
 obtain⟨wa,hwa,B7,hx⟩:∃ wa,wa=(w9.alloc (.cells #[.int .i64 0,.slice none 0 0,.slice none 0 0,.slice none 0 0,.int .i64 0,.slice none 0 0,.int .i64 0,.slice none 0 0,.int .i64 0,.int .i64 0,.string ⟨#[]⟩,.int .i64 0,.string ⟨#[]⟩] 37)).setCells w9.heap.size 0 ns/\Blk wa w9.heap.size 37 ns.toArray/\Ext w9 wa:=⟨_,rfl,Qas KZ ns (by rw[HN13.out];rfl),Qaa (W:=w9) (Nat.le_refl _) ns 0 _ (Ext.new (Below.refl _ _) _)⟩
 have T4:=hU (show World.there (w9.alloc (.cells #[.int .i64 0,.slice none 0 0,.slice none 0 0,.slice none 0 0,.int .i64 0,.slice none 0 0,.int .i64 0,.slice none 0 0,.int .i64 0,.int .i64 0,.string ⟨#[]⟩,.int .i64 0,.string ⟨#[]⟩] 37)) w9.heap.size 0 ns.length by rw[HN13.out];exact KZ.there 0 13 (by simp));have HW:=hU hwa
 replace he:=he.next hx;replace B1:=B1.ext hx;replace B2:=B2.ext hx;replace B3:=B3.ext hx;replace rows:=rows.ext hx
 have RW:=hU rows
 clear hwa hx KZ rows
 go_upto_region 14 with(refine Qac rfl 37 _ _ rfl rfl w9.heap.size 0 ns rfl rfl T4.out (by rw[HN13.out];kernel_rfl) HNA.out ?_;rw[<-HW.out])
 obtain⟨g7,hg7⟩:∃ g7,g7=w9.heap.size:=⟨_,rfl⟩
 rw[<-hg7] at B7 h89
 rw[<-hg7]
 clear T4 HW hg7 HNA
 have B7L:Blk wa g7 37 #[.int .i64 b.width,.slice V0 b.log.entries.length v0,.slice V1 b.receipts.length v1,.slice V2 b.heads.length v2,.int .i64 b.sealed.leaves.size,.slice V3 b.sealed.leaves.peaks.length v3,.int .i64 b.sealed.taken.size,.slice V4 b.sealed.taken.peaks.length v4,.int .i64 b.sealed.head.number,.int .i64 b.sealed.head.size,.string b.sealed.head.root,.int .i64 b.sealed.head.taken,.string b.sealed.head.takenRoot]:=by have h:=B7;rw[HNS.out] at h;exact h
 have hga:=B7.lt
 obtain⟨nr,hnr⟩:∃ nr,nr=b.receipts.length:=⟨_,rfl⟩
 have lnr:=HKN.out
 have x2:wa.cell? ⟨g7,2,none⟩=some (.slice V1 nr v1):=by rw[hnr];exact B7L.cell 2
 have rr:=RW.out.r
 rw[<-hnr] at rr lnr
 have RR:=hU rr
 obtain⟨r2,f2⟩:=B2.rules
 have BX:=hU B7L;have HE:=hU he;have Q1:=hU B1;have Q2:=hU B2;have Q3:=hU B3
 have HNR:=hU hnr
 have hK3:g3+1<=K:=hK
 clear B7 B7L he B1 B2 B3 rr hnr
 go_wp2_with (at_builtin;refine Qap _ rfl _ _ 27 rfl K 42 i0 _ 3 40 Tryz.underlying27 hi hz0 hz1 hz2 rfl (by decide) _ _ _ rfl (RR.out.alloc _) ⟨wa.heap.size,0,none⟩ 1 1 [.string r.reader,.string r.topic,.int .i64 r.index] rfl rfl ?e1 ?e2 ?e3 ?e4 ?e5 ?_)
 case e1=>exact(Blk.new wa 42 #[.string r.reader,.string r.topic,.int .i64 r.index]).adds
 case e2=>intro u hu;simp at hu;rcases hu with rfl|rfl|rfl <;> rfl
 case e3=>unfold maxLen;omega
 case e4=>omega
 case e5=>simp;omega
 intro v' wb ho hf hmv
 obtain⟨VR,vrc,rfl,_⟩:=Qae ho
 have hxa:=Ext.new (Below.refl wa.heap.size wa) (.cells #[.string r.reader,.string r.topic,.int .i64 r.index] 42)
 have rows:=RW.out.ext hxa
 have rr:=Qag RR.out hxa
 have LO:=rr.lt
 have g7b:=hf.blk (BX.out.ext hxa) (fun e=>Qew rows.r (BX.out.ext hxa) (by decide) _ (by rw[<-HNR.out];exact e) rfl)
 have B1:=hf.blk (Q1.out.ext hxa) (fun e=>by have:=(LO _ e).1;omega)
 have B2:=hf.blk (Q2.out.ext hxa) (fun e=>by have:=(LO _ e).1;omega)
 have B3:=hf.blk (Q3.out.ext hxa) (fun e=>by have:=(LO _ e).1;omega)
 have he:=hf.toExt (HE.out.next hxa) (fun y hy e=>by have:=(LO _ e).1;omega)
 have fe:=hf.own rows.e (fun y hy e2=>Qbq rows.e rr (by decide) y hy e2)
 have fh:=hf.own rows.h (fun y hy e2=>Qbq rows.h rr (by decide) y hy e2)
 have fp:=hf.own rows.p (fun y hy e2=>Qbq rows.p rr (by decide) y hy e2)
 have fq:=hf.own rows.q (fun y hy e2=>Qbq rows.q rr (by decide) y hy e2)
 have fr:wb.ownsRow K 42 3 (.slice VR (nr+1) vrc) (tkB b r).receipts.length ((tkB b r).receipts.flatMap Qab.cells):=by
  have e1:(tkB b r).receipts.length=nr+1:=by rw[HNR.out];simp[tkB]
  have e2:(tkB b r).receipts.flatMap Qab.cells=b.receipts.flatMap Qab.cells++[.string r.reader,.string r.topic,.int .i64 r.index]:=by simp[tkB,Qab.cells]
  rw[e1,e2];exact ho
 obtain⟨ms,hms⟩:∃ ms,ms=Qe8 (tkB b r) (.slice V0 b.log.entries.length v0) (.slice VR (nr+1) vrc) (.slice V2 b.heads.length v2) (.slice V3 b.sealed.leaves.peaks.length v3) (.slice V4 b.sealed.taken.peaks.length v4):=⟨_,rfl⟩
 have z1:Blk (wb.setCell ⟨g7,2,none⟩ (.slice VR (nr+1) vrc)) g7 37 ms.toArray:=g7b.put 2 [.slice VR (nr+1) vrc] ms.toArray (by simp) (by rw[hms];rfl)
 have z2:Qb9 K (wb.setCell ⟨g7,2,none⟩ (.slice VR (nr+1) vrc)) (tkB b r) (.slice V0 b.log.entries.length v0) (.slice VR (nr+1) vrc) (.slice V2 b.heads.length v2) (.slice V3 b.sealed.leaves.peaks.length v3) (.slice V4 b.sealed.taken.peaks.length v4):=⟨Qa1 fe g7b (by decide) [_] _,Qa1 fr g7b (by decide) [_] _,Qa1 fh g7b (by decide) [_] _,Qa1 fp g7b (by decide) [_] _,Qa1 fq g7b (by decide) [_] _⟩
 have z3:=B1.far (p:=⟨g7,2,none⟩) (by show g1≠g7;omega) (.slice VR (nr+1) vrc)
 have z4:=B3.far (p:=⟨g7,2,none⟩) (by show g3≠g7;omega) (.slice VR (nr+1) vrc)
 have z5:Ext w (wb.setCell ⟨g7,2,none⟩ (.slice VR (nr+1) vrc)):=Below.setCell he (p:=⟨g7,2,none⟩) (by show w.heap.size<=g7;omega) _
 have HM13:=hU (show ms.length=13 by rw[hms];rfl)
 have HMA:=hU (show ms.all (·.oneCell')=true by rw[hms];rfl)
 have HMS:=hU hms
 have Z1:=hU z1;have Z2:=hU z2;have Z3:=hU z3;have Z4:=hU z4;have Z5:=hU z5
 have x2:wb.cell? ⟨g7,2,none⟩=some (.slice V1 nr v1):=by rw[HNR.out];exact g7b.cell 2
 have x3:=g7b.frozen 2
 clear ho hf hmv hxa rows rr LO fe fh fp fq fr hms z1 z2 z3 z4 z5 he B1 B2 B3 g7b r2 f2 BX HE Q1 Q2 Q3 RW RR
 go_upto_region 15 with fail
 generalize wb.setCell ⟨g7,2,none⟩ (.slice VR (nr+1) vrc)=wd at *
 clear x2 x3
 have rows:=Z2.out
 refine wp_region_held_drew (S:=fun w'=>Blk w' g7 37 ms.toArray/\Blk w' g1 37 cs.toArray/\(∃ ds:Array Value,ds.size=13/\Blk w' g3 37 ds)/\Ext w w') (by kernel_rfl) ⟨Z1.out.drew,Z3.out.drew,⟨_,rfl,Z4.out.drew⟩,Z5.out.drew⟩ (fun hH=>?_)
 replace rows:=rows.ext (Below.refl _ _).drew
 clear Z1 Z2 Z3 Z4 Z5
 refine wpAnyH_take (i:=0) (oi:=_) (v:=_) rfl (by kernel_rfl) (by kernel_rfl) (by kernel_rfl) (fun _ _ _ h=>h) (yieldsIf_load_mid (by rfl) 37 _ rfl g7 0 rfl ms _ (fun w' h=>Blk.range h.1) Tryz.underlying37 rfl (by rw[HM13.out];kernel_rfl)) hH ?_
 try simp only[zB]
 refine wpAnyH_take (i:=1) (oi:=_) (v:=_) rfl (by kernel_rfl) (by kernel_rfl) (by kernel_rfl) (fun _ _ _ h=>h) (yieldsIf_load_mid (by rfl) 37 _ rfl g1 0 rfl cs _ (fun w' h=>Blk.range h.2.1) Tryz.underlying37 rfl (by rw[HL13.out];kernel_rfl)) hH ?_
 try simp only[zB]
 refine tk 2 (.string tx) (some 56) hH ?_
 try simp only[zA]
 refine oneH 3 (oi:=_) (some 57) (by kernel_rfl) rfl rfl rfl (fun K' hK=>?_)
 refine⟨?_⟩
 rw[if_pos (by rfl)]
 go_simp
 refine(LW.out _ hH.2.2.2).mono ?_
 rintro e we ⟨vw,rfl,ow,h1⟩
 have ow:=Qaj (B':=K) ow (by have:=hH.1.lt;omega)
 replace rows:=rows.ext h1
 refine hK.out _ _ ⟨_,rfl⟩ (⟨hH.1.ext h1,hH.2.1.ext h1,(by obtain⟨ds,d1,d2⟩:=hH.2.2.1;exact⟨ds,d1,d2.ext h1⟩),hH.2.2.2.next h1⟩) (fun hH2=>?_)
 clear hK K' hH h1
 have hH:=hH2
 clear hH2
 try simp only[zB]
 refine oneH 4 (oi:=_) none (by kernel_rfl) rfl rfl rfl (fun K' hK=>?_)
 refine⟨?_⟩;rw[if_pos (by rfl)]
 obtain⟨y1,y2,⟨ds,d1,d2⟩,y4⟩:=hH
 refine Qao 37 _ _ (by rfl) (by rfl) g3 0 ms (by rfl) (by rfl) (by rw[HM13.out];exact d2.there 0 13 (by omega)) (by rw[HM13.out];kernel_rfl) HMA.out ?_
 have bz:=Qas d2 ms (by rw[HM13.out];exact d1)
 have BZ:=hU bz
 have OO:Hid (Qb9 w.heap.size (we.setCells g3 0 ms) (tkB b r) (.slice V0 b.log.entries.length v0) (.slice VR (nr+1) vrc) (.slice V2 b.heads.length v2) (.slice V3 b.sealed.leaves.peaks.length v3) (.slice V4 b.sealed.taken.peaks.length v4)):=hU ⟨Qa2 rows.e hK3 (by omega) ms 0,Qa2 rows.r hK3 (by omega) ms 0,Qa2 rows.h hK3 (by omega) ms 0,Qa2 rows.p hK3 (by omega) ms 0,Qa2 rows.q hK3 (by omega) ms 0⟩
 have OW:=hU (Qa2 (B:=w.heap.size) ow hK3 (by omega) ms 0)
 have hn:Blk (we.setCells g3 0 ms) g7 37 ms.toArray/\Blk (we.setCells g3 0 ms) g1 37 cs.toArray/\(∃ ds:Array Value,ds.size=13/\Blk (we.setCells g3 0 ms) g3 37 ds)/\Ext w (we.setCells g3 0 ms):=⟨y1.farCells (by omega) ms 0,y2.farCells (by omega) ms 0,⟨_,by rw[List.size_toArray,HM13.out],bz⟩,Qaa hw ms 0 _ y4⟩
 refine hK.out _ _ ⟨undef,rfl⟩ (hn) (fun hH2=>?_)
 clear hK K' hn
 have hH:=hH2
 clear hH2
 try simp only[zB]
 clear rows ow y1 y2 d1 d2 y4 bz
 generalize we.setCells g3 0 ms=wf at *
 obtain⟨V9,v9,rfl,_⟩:=Qae OW.out
 refine tk 5 (.slice V9 1 v9) (some 5) hH ?_
 try simp only[zA]
 refine tk 6 (.int .i64 0) (some 6) hH ?_
 try simp only[zA]
 have HX:=hU hH.2.2.2
 clear hH
 refine wpAnyH_done (by kernel_rfl) ?_ _
 go_wp2_with fail
 refine Qd6 rfl rfl BZ.out Tryz.underlying37 rfl (by rw[List.size_toArray,HM13.out];kernel_rfl) rfl ?_
 rw[(Qjl E.out).1,(Qjl E.out).2,E.out,<-HTX.out]
 exact⟨_,_,_,_,_,_,by rw[HMS.out];rfl,OO.out,AP.out,by simpa using OW.out,HX.out⟩
end Go.Proofs.YtbnkjgcpjeedfaaGreat

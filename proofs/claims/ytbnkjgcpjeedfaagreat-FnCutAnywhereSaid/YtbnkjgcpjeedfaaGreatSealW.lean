/-
  TakeB; SealW: No condition.
-/
import Derived.Test.YtbnkjgcpjeedfaaGreatRightP
import Derived.Test.YtbnkjgcpjeedfaaGreatLeafI
namespace Go.Proofs.YtbnkjgcpjeedfaaGreat
set_option maxHeartbeats 8000000
set_option maxRecDepth 100000
set_option linter.unusedSimpArgs false
open Go.RowKit
set_option linter.unusedVariables false
theorem Qqx{X:Nat->Prop}{K:Nat}{w w1 w2:World}(hx:Ext w w1)(hf:Frm X w1 w2)(hX:∀ b,X b->K<=b)(hK:K<=w.heap.size):Below K w w2:=
 ⟨hf.os.trans hx.os,hf.tape.trans hx.tape,hf.output.trans hx.output,Nat.le_trans hx.size hf.size,fun k hk=>(hf.block k (by have:=hx.size;omega) (fun h=>by have:=hX k h;omega)).trans (hx.block k (by omega))⟩
theorem Qa1{K G T e s n:Nat}{w:World}{v:Value}{xs:List Value}{cs:Array Value}(h:w.ownsRow K e s v n xs)(hb:Blk w G T cs)(ht:T≠e)(vs:List Value)(o:Nat):(w.setCells G o vs).ownsRow K e s v n xs:=
 (Frm.setCells (Frm.refl (fun b=>b=G) w) (g:=G) (fun _=>rfl) vs o).own h (fun y hy=>Qew h hb ht y hy)
def Qtp (b:Qad) (r:Qab) (K g:Nat) (ve vh v1 v2:Value) (w:World) (e:Ending) (w':World):Prop:=
 ∃ vw,e=.returned (.tuple #[vw,.int .i64 (Qee b r:Int)])/\((Qee b r≠0/\Ext w w')\/
  (Qee b r=0/\∃ vr,Blk w' g 37 (Qe8 (tkB b r) ve vr vh v1 v2).toArray/\Qb9 K w' (tkB b r) ve vr vh v1 v2/\w'.ownsRow K 50 3 vw 1 (Qcs b 2 (Qan r)).cells/\Below K w w'))
theorem Qtp.no{b:Qad}{r:Qab}{K g:Nat}{ve vh v1 v2 vw:Value}{w w':World}{e:Ending}{k:Nat}(h:Qee b r=k)(h0:k≠0)(he:e=.returned (.tuple #[vw,.int .i64 (k:Int)]))(hx:Ext w w'):Qtp b r K g ve vh v1 v2 w e w':=
 ⟨vw,by rw[h];exact he,.inl ⟨by omega,hx⟩⟩
theorem take_any(b:Qad)(r:Qab)(g:Nat)(A0:Option Addr)(a0:Nat)(A1:Option Addr)(a1:Nat)(A2:Option Addr)(a2:Nat)(A3:Option Addr)(a3:Nat)(A4:Option Addr)(a4:Nat)(K:Nat)(w:World)(hb:Blk w g 37 #[.int .i64 b.width,.slice A0 b.log.entries.length a0,.slice A1 b.receipts.length a1,.slice A2 b.heads.length a2,.int .i64 b.sealed.leaves.size,.slice A3 b.sealed.leaves.peaks.length a3,.int .i64 b.sealed.taken.size,.slice A4 b.sealed.taken.peaks.length a4,.int .i64 b.sealed.head.number,.int .i64 b.sealed.head.size,.string b.sealed.head.root,.int .i64 b.sealed.head.taken,.string b.sealed.head.takenRoot])(hrows:Qb9 K w b (.slice A0 b.log.entries.length a0) (.slice A1 b.receipts.length a1) (.slice A2 b.heads.length a2) (.slice A3 b.sealed.leaves.peaks.length a3) (.slice A4 b.sealed.taken.peaks.length a4))(hk:TxOk b)(hr:r.Ok)(hB:Qar b=true)(hKg:K<=g)(hKw:K<=w.heap.size) :
 Calls Tryz.prog 100 #[.pointer (some ⟨g,0,none⟩),.agg #[.string r.reader,.string r.topic,.int .i64 r.index]] w (Qtp b r K g (.slice A0 b.log.entries.length a0) (.slice A2 b.heads.length a2) (.slice A3 b.sealed.leaves.peaks.length a3) (.slice A4 b.sealed.taken.peaks.length a4) w):=by
 obtain⟨i0,hi,hz0,hz1,hz2⟩:=info_parts infR
 have hgw:=hb.lt
 have BG:=hU hb;have RW:=hU hrows;have HK:=hU hk;have HRo:=hU hr
 have S0:=hU (show BArg AnyB w b A0 a0 A1 a1 A2 a2 A3 a3 A4 a4 from⟨Qb6 hrows.e,Qb6 hrows.r,Qb6 hrows.h,Qb6 hrows.p,Qb6 hrows.q⟩)
 have LO:=hU (Qqk hB)
 have B3:=Blk.new w 42 #[.string r.reader,.string r.topic,.int .i64 r.index]
 have he:=Ext.new (Below.refl w.heap.size w) (.cells #[.string r.reader,.string r.topic,.int .i64 r.index] 42)
 clear hb hrows hk hr hB
 obtain⟨rb,fb⟩:=B3.rules
 go_enter Tryz.func100,Tryz.ntmps100
 go_wp2_with fail
 obtain⟨p3,hp3⟩:∃ p3,p3=w.heap.size:=⟨_,rfl⟩
 rw[<-hp3] at B3
 rw[<-hp3]
 have hp3w:K<=p3:=by omega
 have hgp:g<p3:=by omega
 clear hp3 rb fb
 refine(Qc5 r _ HRo.out).mono ?_
 rintro e w1 ⟨rfl,h1⟩
 replace he:=he.next h1;replace B3:=B3.ext h1
 clear h1
 cases p1:Qau r
 · have E:=hU (tk2 (b:=b) p1)
   clear B3
   go_wp2_with fail
   go_ret2
   exact Qtp.no E.out (by decide) rfl he
 obtain⟨ti,hti⟩:∃ ti,ti=idxB (ofTI r.topic r.index) b.log.entries:=⟨_,rfl⟩
 obtain⟨lh,hlh⟩:∃ lh,lh=Qaw b.heads:=⟨_,rfl⟩
 have lo:=LO.out
 rw[<-hlh] at lo
 have a1_:IntKind.i64.wrap (lh.size-1)=lh.size-1:=IntWalk.i64_in _ (by omega)
 have FD:∀ W:World,(Instr.field 33 (.agg #[.int .i64 lh.number,.int .i64 lh.size,.string lh.root,.int .i64 lh.taken,.string lh.takenRoot]) 1).run Tryz.prog W=.ok (.int .i64 lh.size) W:=fun _=>by kernel_rfl
 have HTI:=hU hti;have HLH:=hU hlh
 clear hti hlh lo
 go_upto_region 3 with fail
 have G1:=BG.out.ext he
 refine wp_region_held_drew (S:=fun w'=>Blk w' g 37 #[.int .i64 b.width,.slice A0 b.log.entries.length a0,.slice A1 b.receipts.length a1,.slice A2 b.heads.length a2,.int .i64 b.sealed.leaves.size,.slice A3 b.sealed.leaves.peaks.length a3,.int .i64 b.sealed.taken.size,.slice A4 b.sealed.taken.peaks.length a4,.int .i64 b.sealed.head.number,.int .i64 b.sealed.head.size,.string b.sealed.head.root,.int .i64 b.sealed.head.taken,.string b.sealed.head.takenRoot]/\Blk w' p3 42 #[.string r.reader,.string r.topic,.int .i64 r.index]/\Ext w w') (by kernel_rfl) ⟨G1.drew,B3.drew,he.drew⟩ (fun hH=>?_)
 clear G1 B3 he
 refine tk 0 (.pointer (some ⟨g,0,none⟩)) (some 14) hH ?_
 try simp only[zA]
 refine tk 1 (.pointer (some ⟨g,0,none⟩)) (some 15) hH ?_
 try simp only[zA]
 refine tk 2 (.pointer (some ⟨g,1,none⟩)) (some 16) hH ?_
 try simp only[zA]
 refine Qah 3 (.agg #[.slice A0 b.log.entries.length a0]) (some 17) rfl rfl (by kernel_rfl) (Or.inl ⟨by rfl,?yta4⟩) hH ?rta4
 case yta4=>intro w' hS';obtain⟨s0,s1,s2⟩:=hS';obtain⟨r0,f0⟩:=s0.rules;obtain⟨r1,f1⟩:=s1.rules;go_simp;try with_reducible rfl
 try simp only[zA]
 refine tk 4 (.pointer (some ⟨p3,1,none⟩)) (some 18) hH ?_
 try simp only[zA]
 refine Qah 5 (.string r.topic) (some 19) rfl rfl (by kernel_rfl) (Or.inl ⟨by rfl,?yta6⟩) hH ?rta6
 case yta6=>intro w' hS';obtain⟨s0,s1,s2⟩:=hS';obtain⟨r0,f0⟩:=s0.rules;obtain⟨r1,f1⟩:=s1.rules;go_simp;try with_reducible rfl
 try simp only[zA]
 refine tk 6 (.pointer (some ⟨p3,2,none⟩)) (some 20) hH ?_
 try simp only[zA]
 refine Qah 7 (.int .i64 r.index) (some 21) rfl rfl (by kernel_rfl) (Or.inl ⟨by rfl,?yta8⟩) hH ?rta8
 case yta8=>intro w' hS';obtain⟨s0,s1,s2⟩:=hS';obtain⟨r0,f0⟩:=s0.rules;obtain⟨r1,f1⟩:=s1.rules;go_simp;try with_reducible rfl
 try simp only[zA]
 refine tk 9 (.pointer (some ⟨g,0,none⟩)) (some 23) hH ?_
 try simp only[zA]
 refine oneH 8 (oi:=_) (some 22) (by kernel_rfl) rfl rfl rfl (fun K' hK=>?_)
 refine⟨?_⟩
 rw[if_pos (by rfl)]
 go_simp
 refine(Qpl A0 a0 b.log.entries r.topic r.index _ (S0.out.ext hH.2.2).e.reads HK.out.n.e).mono ?_
 rintro e w2 ⟨rfl,h1⟩
 rw[<-HTI.out]
 refine hK.out _ _ ⟨_,rfl⟩ (⟨hH.1.ext h1,hH.2.1.ext h1,hH.2.2.next h1⟩) (fun hH2=>?_)
 clear hK K' hH h1
 have hH:=hH2
 clear hH2
 try simp only[zB]
 refine oneH 10 (oi:=_) (some 24) (by kernel_rfl) rfl rfl rfl (fun K' hK=>?_)
 refine⟨?_⟩
 rw[if_pos (by rfl)]
 go_simp
 refine(Qkk g A2 a2 b.heads _ (hH.1.cell 3) hH.1.lt (S0.out.ext hH.2.2).h.reads HK.out.h HK.out.n.h).mono ?_
 rintro e w3 ⟨rfl,h1⟩
 rw[<-HLH.out]
 refine hK.out _ _ ⟨_,rfl⟩ (⟨hH.1.ext h1,hH.2.1.ext h1,hH.2.2.next h1⟩) (fun hH2=>?_)
 clear hK K' hH h1
 have hH:=hH2
 clear hH2
 try simp only[zB]
 refine Qah 11 (.int .i64 lh.size) (some 25) rfl rfl (by kernel_rfl) (Or.inl ⟨by rfl,?yta10⟩) hH ?rta10
 case yta10=>intro w' hS';obtain⟨s0,s1,s2⟩:=hS';obtain⟨r0,f0⟩:=s0.rules;obtain⟨r1,f1⟩:=s1.rules;go_simp;try with_reducible rfl
 try simp only[zA]
 refine Qah 12 (.int .i64 (lh.size-1)) (some 26) rfl rfl (by kernel_rfl) (Or.inl ⟨by rfl,?yta11⟩) hH ?rta11
 case yta11=>intro w' hS';obtain⟨s0,s1,s2⟩:=hS';obtain⟨r0,f0⟩:=s0.rules;obtain⟨r1,f1⟩:=s1.rules;go_simp;try with_reducible rfl
 try simp only[zA]
 cases p2:inR ti 0 (lh.size-1)
 · skip
   refine oneH 13 (oi:=_) (some 27) (by kernel_rfl) rfl rfl rfl (fun K' hK=>?_)
   refine⟨?_⟩
   rw[if_pos (by rfl)]
   go_simp
   refine(Qba ti 0 (lh.size-1) _).mono ?_
   rintro e w4 ⟨rfl,rfl⟩
   rw[p2]
   refine hK.out _ _ ⟨_,rfl⟩ (hH) (fun hH2=>?_)
   clear hK K' hH
   have hH:=hH2
   clear hH2
   try simp only[zB]
   refine tk 14 (.bool true) (some 28) hH ?_
   try simp only[zA]
   refine tk 15 (.bool true) (some 13) hH ?_
   try simp only[zA]
   have he:=hH.2.2
   clear hH
   have E:=hU (tk3 (b:=b) p1 (by rw[<-HTI.out,<-HLH.out];exact p2))
   refine wpAnyH_done (by kernel_rfl) ?_ _
   go_wp2_with fail
   go_ret2
   exact Qtp.no E.out (by decide) rfl he
 refine oneH 13 (oi:=_) (some 27) (by kernel_rfl) rfl rfl rfl (fun K' hK=>?_)
 refine⟨?_⟩
 rw[if_pos (by rfl)]
 go_simp
 refine(Qba ti 0 (lh.size-1) _).mono ?_
 rintro e w4 ⟨rfl,rfl⟩
 rw[p2]
 refine hK.out _ _ ⟨_,rfl⟩ (hH) (fun hH2=>?_)
 clear hK K' hH
 have hH:=hH2
 clear hH2
 try simp only[zB]
 refine tk 14 (.bool false) (some 28) hH ?_
 try simp only[zA]
 refine tk 15 (.bool false) (some 13) hH ?_
 try simp only[zA]
 have he:=hH.2.2
 have B3:=hH.2.1
 have G1:=hH.1
 clear hH
 refine wpAnyH_done (by kernel_rfl) ?_ _
 go_upto_region 5 with fail
 obtain⟨qi,hqi⟩:∃ qi,qi=idxB (fun x:Qab=>x.eqb r) b.receipts:=⟨_,rfl⟩
 have HQI:=hU hqi
 clear hqi a1_ FD
 refine wp_region_held_drew (S:=fun w'=>Blk w' g 37 #[.int .i64 b.width,.slice A0 b.log.entries.length a0,.slice A1 b.receipts.length a1,.slice A2 b.heads.length a2,.int .i64 b.sealed.leaves.size,.slice A3 b.sealed.leaves.peaks.length a3,.int .i64 b.sealed.taken.size,.slice A4 b.sealed.taken.peaks.length a4,.int .i64 b.sealed.head.number,.int .i64 b.sealed.head.size,.string b.sealed.head.root,.int .i64 b.sealed.head.taken,.string b.sealed.head.takenRoot]/\Blk w' p3 42 #[.string r.reader,.string r.topic,.int .i64 r.index]/\Ext w w') (by kernel_rfl) ⟨G1.drew,B3.drew,he.drew⟩ (fun hH=>?_)
 clear G1 B3 he
 refine tk 0 (.pointer (some ⟨g,0,none⟩)) (some 30) hH ?_
 try simp only[zA]
 refine tk 1 (.pointer (some ⟨g,0,none⟩)) (some 31) hH ?_
 try simp only[zA]
 refine tk 2 (.pointer (some ⟨g,2,none⟩)) (some 32) hH ?_
 try simp only[zA]
 refine Qah 3 (.slice A1 b.receipts.length a1) (some 33) rfl rfl (by kernel_rfl) (Or.inl ⟨by rfl,?ytb4⟩) hH ?rtb4
 case ytb4=>intro w' hS';obtain⟨s0,s1,s2⟩:=hS';obtain⟨r0,f0⟩:=s0.rules;obtain⟨r1,f1⟩:=s1.rules;go_simp;try with_reducible rfl
 try simp only[zA]
 refine Qah 4 (.agg #[.string r.reader,.string r.topic,.int .i64 r.index]) (some 34) rfl rfl (by kernel_rfl) (Or.inl ⟨by rfl,?ytb5⟩) hH ?rtb5
 case ytb5=>intro w' hS';obtain⟨s0,s1,s2⟩:=hS';obtain⟨r0,f0⟩:=s0.rules;obtain⟨r1,f1⟩:=s1.rules;go_simp;try with_reducible rfl
 try simp only[zA]
 by_cases p3_:0<=qi
 · skip
   refine oneH 5 (oi:=_) (some 35) (by kernel_rfl) rfl rfl rfl (fun K' hK=>?_)
   refine⟨?_⟩
   rw[if_pos (by rfl)]
   go_simp
   refine(Qk2 A1 a1 b.receipts r _ (S0.out.ext hH.2.2).r.reads HK.out.n.r).mono ?_
   rintro e w5 ⟨rfl,h1⟩
   rw[<-HQI.out,decide_eq_true p3_]
   refine hK.out _ _ ⟨_,rfl⟩ (⟨hH.1.ext h1,hH.2.1.ext h1,hH.2.2.next h1⟩) (fun hH2=>?_)
   clear hK K' hH h1
   have hH:=hH2
   clear hH2
   try simp only[zB]
   refine tk 6 (.bool true) (some 29) hH ?_
   try simp only[zA]
   have he:=hH.2.2
   clear hH
   have E:=hU (tk4 (b:=b) p1 (by rw[<-HTI.out,<-HLH.out];exact p2) (by rw[<-HQI.out];exact p3_))
   refine wpAnyH_done (by kernel_rfl) ?_ _
   go_wp2_with fail
   go_ret2
   exact Qtp.no E.out (by decide) rfl he
 refine oneH 5 (oi:=_) (some 35) (by kernel_rfl) rfl rfl rfl (fun K' hK=>?_)
 refine⟨?_⟩
 rw[if_pos (by rfl)]
 go_simp
 refine(Qk2 A1 a1 b.receipts r _ (S0.out.ext hH.2.2).r.reads HK.out.n.r).mono ?_
 rintro e w5 ⟨rfl,h1⟩
 rw[<-HQI.out,decide_eq_false p3_]
 refine hK.out _ _ ⟨_,rfl⟩ (⟨hH.1.ext h1,hH.2.1.ext h1,hH.2.2.next h1⟩) (fun hH2=>?_)
 clear hK K' hH h1
 have hH:=hH2
 clear hH2
 try simp only[zB]
 refine tk 6 (.bool false) (some 29) hH ?_
 try simp only[zA]
 have he:=hH.2.2
 have B3:=hH.2.1
 have G1:=hH.1
 clear hH
 refine wpAnyH_done (by kernel_rfl) ?_ _
 obtain⟨rg,fg⟩:=G1.rules
 obtain⟨nr,hnr⟩:∃ nr,nr=b.receipts.length:=⟨_,rfl⟩
 have nrl:=HK.out.n.r
 rw[<-hnr] at nrl rg
 have BH:=hU B3
 clear B3 G1
 by_cases p5:512<=nr
 · have E:=hU (tk5 (b:=b) p1 (by rw[<-HTI.out,<-HLH.out];exact p2) (by rw[<-HQI.out];exact p3_) (by rw[<-hnr];exact p5))
   clear hnr
   have g0:decide ((512:Int)<=(nr:Int))=true:=decide_eq_true (by omega)
   go_wp2_with fail
   go_ret2
   exact Qtp.no E.out (by decide) rfl he
 have E:=hU (tk0 (b:=b) p1 (by rw[<-HTI.out,<-HLH.out];exact p2) (by rw[<-HQI.out];exact p3_) (by rw[<-hnr];exact p5))
 have HNR:=hU hnr
 clear hnr
 have g0:decide ((512:Int)<=(nr:Int))=false:=decide_eq_false (by omega)
 obtain⟨rb,fb⟩:=BH.out.rules
 go_wp2_with fail
 refine(Qet r _ HRo.out).mono ?_
 rintro e w6 ⟨rfl,h1⟩
 replace he:=he.next h1
 have B3:=BH.out.ext h1
 clear h1 rb fb rg fg BH
 obtain⟨tx,htx⟩:∃ tx,tx=Qan r:=⟨_,rfl⟩
 rw[<-htx]
 have HTX:=hU htx
 clear htx
 go_wp2_with fail
 refine(Qf5 b 2 (by decide) tx g A0 a0 A1 a1 A2 a2 A3 a3 A4 a4 _ (BG.out.ext he) (S0.out.ext he) HK.out (by rw[HTX.out];exact Qcx (Qco r))).mono ?_
 rintro e w7 ⟨vw,rfl,ow,h1⟩
 have ow:=Qaj (B':=K) ow (Nat.le_trans hKw he.size)
 replace he:=he.next h1;replace B3:=B3.ext h1
 clear h1
 go_upto_region 11 with fail
 refine wp_region_any (by kernel_rfl) ?_
 change wpAny _ _ _ _ _ _ _ (World.drew _)
 refine Qgi (i:=0) (oi:=_) (v:=.pointer (some ⟨g,0,none⟩)) (some 51) rfl rfl (by kernel_rfl) (by kernel_rfl) (by kernel_rfl) (fun _ a b _ e h=>by cases a;cases b;cases e;exact h) (Or.inl ⟨by rfl,?z0⟩) ?rz0
 case z0=>intro w';go_simp;try with_reducible rfl
 try simp only[zA]
 refine Qgi (i:=1) (oi:=_) (v:=.pointer (some ⟨g,0,none⟩)) (some 52) rfl rfl (by kernel_rfl) (by kernel_rfl) (by kernel_rfl) (fun _ a b _ e h=>by cases a;cases b;cases e;exact h) (Or.inl ⟨by rfl,?z1⟩) ?rz1
 case z1=>intro w';go_simp;try with_reducible rfl
 try simp only[zA]
 refine Qgi (i:=2) (oi:=_) (v:=.pointer (some ⟨g,0,none⟩)) (some 53) rfl rfl (by kernel_rfl) (by kernel_rfl) (by kernel_rfl) (fun _ a b _ e h=>by cases a;cases b;cases e;exact h) (Or.inl ⟨by rfl,?z2⟩) ?rz2
 case z2=>intro w';go_simp;try with_reducible rfl
 try simp only[zA]
 refine Qgi (i:=3) (oi:=_) (v:=.pointer (some ⟨g,2,none⟩)) (some 54) rfl rfl (by kernel_rfl) (by kernel_rfl) (by kernel_rfl) (fun _ a b _ e h=>by cases a;cases b;cases e;exact h) (Or.inl ⟨by rfl,?z3⟩) ?rz3
 case z3=>intro w';go_simp;try with_reducible rfl
 try simp only[zA]
 have G1:=BG.out.ext he
 have RX:Qb9 K _ b _ _ _ _ _:=RW.out.ext he
 refine Qjj [(4,some 55),(5,some 56),(6,some 57)] (fun i v w'=>match i with
  | 4=>v=.slice A1 b.receipts.length a1
  | 5=>v=.agg #[.string r.reader,.string r.topic,.int .i64 r.index]
  | 6=>∃ Q,v=.slice (some ⟨Q,0,none⟩) 1 1/\Blk w' Q 42 #[.string r.reader,.string r.topic,.int .i64 r.index]
  | _=>True) (fun w'=>Blk w' g 37 #[.int .i64 b.width,.slice A0 b.log.entries.length a0,.slice A1 b.receipts.length a1,.slice A2 b.heads.length a2,.int .i64 b.sealed.leaves.size,.slice A3 b.sealed.leaves.peaks.length a3,.int .i64 b.sealed.taken.size,.slice A4 b.sealed.taken.peaks.length a4,.int .i64 b.sealed.head.number,.int .i64 b.sealed.head.size,.string b.sealed.head.root,.int .i64 b.sealed.head.taken,.string b.sealed.head.takenRoot]/\Blk w' p3 42 #[.string r.reader,.string r.topic,.int .i64 r.index]/\Qb9 K w' b (.slice A0 b.log.entries.length a0) (.slice A1 b.receipts.length a1) (.slice A2 b.heads.length a2) (.slice A3 b.sealed.leaves.peaks.length a3) (.slice A4 b.sealed.taken.peaks.length a4)/\w'.ownsRow K 50 3 vw 1 (Qcs b 2 tx).cells/\Ext w w') (fun w1 w2=>Ext w1 w2) (n:=4) (by kernel_rfl) (by rfl) (fun _ a b _ e h=>by cases a;cases b;cases e;exact h) ?hR ⟨G1.drew,B3.drew,RX.ext (Below.refl _ _).drew,Qag ow (Below.refl _ _).drew,he.drew⟩ ?hst ?hend
 case hR=>
  intro j v wa wb hx h
  split
  · exact h
  · exact h
  · obtain⟨Q,h1,h2⟩:=h;exact⟨Q,h1,h2.ext hx⟩
  · trivial
 case hst=>
  clear G1 RX B3 ow he
  refine Qbo.cons [] (o:=_) rfl rfl rfl (by kernel_rfl) (fun vals u hv hS K' hK=>?_) ?_
  · clear hv
    obtain⟨r0,f0⟩:=hS.1.rules
    refine⟨?_⟩
    (try simp only[zB] at hK ⊢)
    go_simp
    exact hK.out _ _ ⟨_,rfl,rfl⟩ hS (Below.refl _ _)
  refine Qbo.cons [] (o:=_) rfl rfl rfl (by kernel_rfl) (fun vals u hv hS K' hK=>?_) ?_
  · clear hv
    obtain⟨r0,f0⟩:=hS.2.1.rules
    refine⟨?_⟩
    (try simp only[zB] at hK ⊢)
    go_simp
    exact hK.out _ _ ⟨_,rfl,rfl⟩ hS (Below.refl _ _)
  refine Qbo.cons [5] (o:=_) rfl rfl rfl (by kernel_rfl) (fun vals u hv hS K' hK=>?_) ?_
  · obtain⟨hv,_⟩:=hv
    have h1:=Ext.new (Below.refl u.heap.size u) (.cells #[.string r.reader,.string r.topic,.int .i64 r.index] 42)
    have F:=hK.out _ (u.alloc (.cells #[.string r.reader,.string r.topic,.int .i64 r.index] 42)) ⟨_,rfl,u.heap.size,rfl,Blk.new _ _ _⟩ ⟨hS.1.ext h1,hS.2.1.ext h1,hS.2.2.1.ext h1,Qag hS.2.2.2.1 h1,hS.2.2.2.2.next h1⟩ h1
    refine⟨?_⟩
    (try simp only[zB] at hK F ⊢)
    simp only at hv
    rw[hv] at hK F ⊢
    clear hv
    go_simp
    exact F
  exact Qbo.nil
 case hend=>
  clear G1 RX B3 ow he
  intro vals w8 hv hS
  obtain⟨hv4,hv5,⟨Q,hv6,bq⟩,_⟩:=hv
  simp only at hv4 hv5 hv6
  try simp only[zB]
  rw[hv4,hv5,hv6]
  clear hv4 hv5 hv6
  obtain⟨g8,_,rx,ow,he⟩:=hS
  refine oneA 7 (oi:=_) (some 58) (by kernel_rfl) rfl rfl rfl (fun K' hK=>?_)
  refine⟨?_⟩;rw[if_pos (by rfl)]
  refine Qem _ _ _ 27 (by rfl) K 42 i0 _ 3 40 Tryz.underlying27 hi hz0 hz1 hz2 rfl (by decide) (.slice A1 b.receipts.length a1) b.receipts.length (b.receipts.flatMap Qab.cells) (by rfl) rx.r ⟨Q,0,none⟩ 1 1 [.string r.reader,.string r.topic,.int .i64 r.index] (by rfl) (by rfl) bq.adds (by intro u hu;simp at hu;rcases hu with rfl|rfl|rfl <;> rfl) ?_ ?_ ?_ (fun v' w9 ho hf hm=>?_)
  · have:=HK.out.n.r;unfold maxLen;omega
  · have:=HK.out.n.r;omega
  · exact Nat.le_trans hKw he.size
  obtain⟨V1,v1,rfl,_⟩:=Qae ho
  have g9:=hf.blk g8 (fun e=>Qew rx.r g8 (by decide) _ e rfl)
  have fe:=hf.own rx.e (fun y hy e2=>Qbq rx.e rx.r (by decide) y hy e2)
  have fh:=hf.own rx.h (fun y hy e2=>Qbq rx.h rx.r (by decide) y hy e2)
  have fp:=hf.own rx.p (fun y hy e2=>Qbq rx.p rx.r (by decide) y hy e2)
  have fq:=hf.own rx.q (fun y hy e2=>Qbq rx.q rx.r (by decide) y hy e2)
  have fw:=hf.own ow (fun y hy e2=>Qbq ow rx.r (by decide) y hy e2)
  have fr:w9.ownsRow K 42 3 (.slice V1 (b.receipts.length+1) v1) (tkB b r).receipts.length ((tkB b r).receipts.flatMap Qab.cells):=by
   have e1:(tkB b r).receipts.length=b.receipts.length+1:=by simp[tkB]
   have e2:(tkB b r).receipts.flatMap Qab.cells=b.receipts.flatMap Qab.cells++[.string r.reader,.string r.topic,.int .i64 r.index]:=by simp[tkB,Qab.cells]
   rw[e1,e2];exact ho
  have bl:Below K w w9:=Qqx he hf (fun y hy=>(rx.r.lt y hy).1) hKw
  have nv:=[Value.slice V1 (b.receipts.length+1) v1]
  have z1:=g9.put 2 [.slice V1 (b.receipts.length+1) v1] (Qe8 (tkB b r) (.slice A0 b.log.entries.length a0) (.slice V1 (b.receipts.length+1) v1) (.slice A2 b.heads.length a2) (.slice A3 b.sealed.leaves.peaks.length a3) (.slice A4 b.sealed.taken.peaks.length a4)).toArray (by simp) rfl
  have z2:Qb9 K (w9.setCells g 2 [.slice V1 (b.receipts.length+1) v1]) (tkB b r) (.slice A0 b.log.entries.length a0) (.slice V1 (b.receipts.length+1) v1) (.slice A2 b.heads.length a2) (.slice A3 b.sealed.leaves.peaks.length a3) (.slice A4 b.sealed.taken.peaks.length a4):=⟨Qa1 fe g9 (by decide) _ _,Qa1 fr g9 (by decide) _ _,Qa1 fh g9 (by decide) _ _,Qa1 fp g9 (by decide) _ _,Qa1 fq g9 (by decide) _ _⟩
  have z3:=Qa1 fw g9 (by decide) [.slice V1 (b.receipts.length+1) v1] 2
  have z4:Below K w (w9.setCells g 2 [.slice V1 (b.receipts.length+1) v1]):=Below.setCell bl (p:=⟨g,2,none⟩) hKg _
  have Z1:=hU z1;have Z2:=hU z2;have Z3:=hU z3;have Z4:=hU z4
  have c2:=g9.cell 2
  have f2:=g9.frozen 2
  refine hK.out _ _ ⟨_,rfl⟩ ?_
  clear hK K' hm hf ho fe fh fp fq fw fr bl nv z1 z2 z3 z4 rx ow he g8 bq g9
  try simp only[zB]
  refine Qgi (i:=8) (oi:=_) (v:=.pointer (some ⟨g,0,none⟩)) (some 59) rfl rfl (by kernel_rfl) (by kernel_rfl) (by kernel_rfl) (fun _ a b _ e h=>by cases a;cases b;cases e;exact h) (Or.inl ⟨by rfl,?z8⟩) ?rz8
  case z8=>intro w';go_simp;try with_reducible rfl
  try simp only[zA]
  refine Qgi (i:=9) (oi:=_) (v:=.pointer (some ⟨g,2,none⟩)) (some 60) rfl rfl (by kernel_rfl) (by kernel_rfl) (by kernel_rfl) (fun _ a b _ e h=>by cases a;cases b;cases e;exact h) (Or.inl ⟨by rfl,?z9⟩) ?rz9
  case z9=>intro w';go_simp;try with_reducible rfl
  try simp only[zA]
  refine oneA 10 (oi:=_) none (by kernel_rfl) rfl rfl rfl (fun K' hK=>?_)
  have F:=hK.out { tmps:=_,defers:=_ } (w9.setCell ⟨g,2,none⟩ (.slice V1 (b.receipts.length+1) v1)) ⟨undef,rfl⟩
  refine⟨?_⟩
  rw[if_pos (by rfl)]
  go_simp
  refine F ?_
  clear F hK K' c2 f2
  refine wpAny_done (by kernel_rfl) ?_ _
  try simp only[zB]
  go_wp2_with fail
  go_ret2
  refine⟨vw,by rw[E.out];rfl,.inr ⟨E.out,_,Z1.out,Z2.out,by rw[<-HTX.out];exact Z3.out,Z4.out⟩⟩
set_option maxHeartbeats 4000000
theorem Qmi{α:Type}{f:α->List Value}{size:Nat}{w:World}{A:Option Addr}{l:List α}{c:Nat}(hf:∀ a,(f a).length=size)(h:SlF AnyB f size w A l c)(n:Nat)(hn:n<=l.length):SlF AnyB f size w (Qhx A c n size) (l.drop n) (c-n):=
 ⟨by rw[List.length_drop];have:=h.le;omega,by have:=h.cap;omega,by have:=Qiu hf h.reads (c:=c) (n:=n) (m:=l.length) hn (Nat.le_refl _) h.le;rwa [List.take_of_length_le (by rw[List.length_drop];omega)] at this,fun _ _ _=>trivial⟩
theorem Qsm(b:Qad)(g:Nat)(A0:Option Addr)(a0:Nat)(A1:Option Addr)(a1:Nat)(A2:Option Addr)(a2:Nat)(A3:Option Addr)(a3:Nat)(A4:Option Addr)(a4:Nat)(w:World)(hb:Blk w g 37 #[.int .i64 b.width,.slice A0 b.log.entries.length a0,.slice A1 b.receipts.length a1,.slice A2 b.heads.length a2,.int .i64 b.sealed.leaves.size,.slice A3 b.sealed.leaves.peaks.length a3,.int .i64 b.sealed.taken.size,.slice A4 b.sealed.taken.peaks.length a4,.int .i64 b.sealed.head.number,.int .i64 b.sealed.head.size,.string b.sealed.head.root,.int .i64 b.sealed.head.taken,.string b.sealed.head.takenRoot])(s:BArg AnyB w b A0 a0 A1 a1 A2 a2 A3 a3 A4 a4)(hn:BSz b)(h0:0<b.heads.length)(hs:0<=(Qaw b.heads).size/\(Qaw b.heads).size<=512)(ht:0<=(Qaw b.heads).taken/\(Qaw b.heads).taken<=512) :
 Calls Tryz.prog 176 #[.pointer (some ⟨g,0,none⟩)] w fun e w'=>e=.returned (.tuple #[.int .i64 ((b.log.entries.length:Int)-(Qaw b.heads).size),.int .i64 ((b.receipts.length:Int)-(Qaw b.heads).taken)])/\Ext w w':=by
 obtain⟨lh,hlh⟩:∃ lh,lh=Qaw b.heads:=⟨_,rfl⟩
 rw[<-hlh] at hs ht
 rw[<-hlh]
 have HLH:=hU hlh
 have S0:=hU s;have HN:=hU hn
 have l1:=hn.e;have l2:=hn.r
 have F1:∀ W:World,(Instr.field 33 (.agg #[.int .i64 lh.number,.int .i64 lh.size,.string lh.root,.int .i64 lh.taken,.string lh.takenRoot]) 1).run Tryz.prog W=.ok (.int .i64 lh.size) W:=fun _=>by kernel_rfl
 have F3:∀ W:World,(Instr.field 33 (.agg #[.int .i64 lh.number,.int .i64 lh.size,.string lh.root,.int .i64 lh.taken,.string lh.takenRoot]) 3).run Tryz.prog W=.ok (.int .i64 lh.taken) W:=fun _=>by kernel_rfl
 have w1:IntKind.i64.wrap ((b.log.entries.length:Int)-lh.size)=(b.log.entries.length:Int)-lh.size:=IntWalk.i64_in _ (by omega)
 have w2:IntKind.i64.wrap ((b.receipts.length:Int)-lh.taken)=(b.receipts.length:Int)-lh.taken:=IntWalk.i64_in _ (by omega)
 clear s hn hlh
 go_enter Tryz.func176,Tryz.ntmps176
 go_upto_region 1 with fail
 refine wp_region_held_drew (S:=fun w'=>Blk w' g 37 #[.int .i64 b.width,.slice A0 b.log.entries.length a0,.slice A1 b.receipts.length a1,.slice A2 b.heads.length a2,.int .i64 b.sealed.leaves.size,.slice A3 b.sealed.leaves.peaks.length a3,.int .i64 b.sealed.taken.size,.slice A4 b.sealed.taken.peaks.length a4,.int .i64 b.sealed.head.number,.int .i64 b.sealed.head.size,.string b.sealed.head.root,.int .i64 b.sealed.head.taken,.string b.sealed.head.takenRoot]/\Ext w w') (by kernel_rfl) ⟨hb.drew,(Below.refl _ _).drew⟩ (fun hH=>?_)
 clear hb
 refine tk 0 (.pointer (some ⟨g,0,none⟩)) (some 4) hH ?_
 try simp only[zA]
 refine tk 1 (.pointer (some ⟨g,0,none⟩)) (some 5) hH ?_
 try simp only[zA]
 refine tk 2 (.pointer (some ⟨g,1,none⟩)) (some 6) hH ?_
 try simp only[zA]
 refine tk 3 (.pointer (some ⟨g,1,none⟩)) (some 7) hH ?_
 try simp only[zA]
 refine Qah 4 (.slice A0 b.log.entries.length a0) (some 8) rfl rfl (by kernel_rfl) (Or.inl ⟨by rfl,?ywa5⟩) hH ?rwa5
 case ywa5=>intro w' hS';obtain⟨s0,s1⟩:=hS';obtain⟨r0,f0⟩:=s0.rules;go_simp;try with_reducible rfl
 try simp only[zA]
 refine Qah 5 (.int .i64 (b.log.entries.length:Int)) (some 9) rfl rfl (by kernel_rfl) (Or.inl ⟨by rfl,?ywa6⟩) hH ?rwa6
 case ywa6=>intro w' hS';obtain⟨s0,s1⟩:=hS';obtain⟨r0,f0⟩:=s0.rules;go_simp;try with_reducible rfl
 try simp only[zA]
 refine tk 6 (.pointer (some ⟨g,0,none⟩)) (some 10) hH ?_
 try simp only[zA]
 refine tk 10 (.pointer (some ⟨g,0,none⟩)) (some 14) hH ?_
 try simp only[zA]
 refine tk 11 (.pointer (some ⟨g,0,none⟩)) (some 15) hH ?_
 try simp only[zA]
 refine tk 12 (.pointer (some ⟨g,2,none⟩)) (some 16) hH ?_
 try simp only[zA]
 refine Qah 13 (.slice A1 b.receipts.length a1) (some 17) rfl rfl (by kernel_rfl) (Or.inl ⟨by rfl,?ywa11⟩) hH ?rwa11
 case ywa11=>intro w' hS';obtain⟨s0,s1⟩:=hS';obtain⟨r0,f0⟩:=s0.rules;go_simp;try with_reducible rfl
 try simp only[zA]
 refine Qah 14 (.int .i64 (b.receipts.length:Int)) (some 18) rfl rfl (by kernel_rfl) (Or.inl ⟨by rfl,?ywa12⟩) hH ?rwa12
 case ywa12=>intro w' hS';obtain⟨s0,s1⟩:=hS';obtain⟨r0,f0⟩:=s0.rules;go_simp;try with_reducible rfl
 try simp only[zA]
 refine tk 15 (.pointer (some ⟨g,0,none⟩)) (some 19) hH ?_
 try simp only[zA]
 refine oneH 7 (oi:=_) (some 11) (by kernel_rfl) rfl rfl rfl (fun K' hK=>?_)
 refine⟨?_⟩
 rw[if_pos (by rfl)]
 go_simp
 refine(Qkk g A2 a2 b.heads _ (hH.1.cell 3) hH.1.lt (S0.out.ext hH.2).h.reads h0 HN.out.h).mono ?_
 rintro e w3 ⟨rfl,h1⟩
 rw[<-HLH.out]
 refine hK.out _ _ ⟨_,rfl⟩ (⟨hH.1.ext h1,hH.2.next h1⟩) (fun hH2=>?_)
 clear hK K' hH h1
 have hH:=hH2
 clear hH2
 try simp only[zB]
 refine Qah 8 (.int .i64 lh.size) (some 12) rfl rfl (by kernel_rfl) (Or.inl ⟨by rfl,?ywa14⟩) hH ?rwa14
 case ywa14=>intro w' hS';obtain⟨s0,s1⟩:=hS';obtain⟨r0,f0⟩:=s0.rules;go_simp;try with_reducible rfl
 try simp only[zA]
 refine Qah 9 (.int .i64 ((b.log.entries.length:Int)-lh.size)) (some 13) rfl rfl (by kernel_rfl) (Or.inl ⟨by rfl,?ywa15⟩) hH ?rwa15
 case ywa15=>intro w' hS';obtain⟨s0,s1⟩:=hS';obtain⟨r0,f0⟩:=s0.rules;go_simp;try with_reducible rfl
 try simp only[zA]
 refine oneH 16 (oi:=_) (some 20) (by kernel_rfl) rfl rfl rfl (fun K' hK=>?_)
 refine⟨?_⟩
 rw[if_pos (by rfl)]
 go_simp
 refine(Qkk g A2 a2 b.heads _ (hH.1.cell 3) hH.1.lt (S0.out.ext hH.2).h.reads h0 HN.out.h).mono ?_
 rintro e w4 ⟨rfl,h1⟩
 rw[<-HLH.out]
 refine hK.out _ _ ⟨_,rfl⟩ (⟨hH.1.ext h1,hH.2.next h1⟩) (fun hH2=>?_)
 clear hK K' hH h1
 have hH:=hH2
 clear hH2
 try simp only[zB]
 refine Qah 17 (.int .i64 lh.taken) (some 21) rfl rfl (by kernel_rfl) (Or.inl ⟨by rfl,?ywa16⟩) hH ?rwa16
 case ywa16=>intro w' hS';obtain⟨s0,s1⟩:=hS';obtain⟨r0,f0⟩:=s0.rules;go_simp;try with_reducible rfl
 try simp only[zA]
 refine Qah 18 (.int .i64 ((b.receipts.length:Int)-lh.taken)) (some 22) rfl rfl (by kernel_rfl) (Or.inl ⟨by rfl,?ywa17⟩) hH ?rwa17
 case ywa17=>intro w' hS';obtain⟨s0,s1⟩:=hS';obtain⟨r0,f0⟩:=s0.rules;go_simp;try with_reducible rfl
 try simp only[zA]
 refine Qah 19 (.int .i64 ((b.log.entries.length:Int)-lh.size)) (some 2) rfl rfl (by kernel_rfl) (Or.inl ⟨by rfl,?ywa18⟩) hH ?rwa18
 case ywa18=>intro w' hS';obtain⟨s0,s1⟩:=hS';obtain⟨r0,f0⟩:=s0.rules;go_simp;try with_reducible rfl
 try simp only[zA]
 refine Qah 20 (.int .i64 ((b.receipts.length:Int)-lh.taken)) (some 3) rfl rfl (by kernel_rfl) (Or.inl ⟨by rfl,?ywa19⟩) hH ?rwa19
 case ywa19=>intro w' hS';obtain⟨s0,s1⟩:=hS';obtain⟨r0,f0⟩:=s0.rules;go_simp;try with_reducible rfl
 try simp only[zA]
 have he:=hH.2
 clear hH
 refine wpAnyH_done (by kernel_rfl) ?_ _
 go_wp2_with fail
 go_ret2
 exact⟨rfl,he⟩
end Go.Proofs.YtbnkjgcpjeedfaaGreat

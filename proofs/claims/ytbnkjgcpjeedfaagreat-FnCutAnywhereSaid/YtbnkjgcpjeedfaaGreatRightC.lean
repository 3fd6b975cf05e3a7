/-
  SpAdd; SpPub; RightC: No condition.
-/
import Derived.Test.YtbnkjgcpjeedfaaGreatRightP
import Derived.Test.YtbnkjgcpjeedfaaGreatCopyC
import Derived.Test.YtbnkjgcpjeedfaaGreatRets
import Derived.Test.YtbnkjgcpjeedfaaGreatSpCopy
import Derived.Test.YtbnkjgcpjeedfaaGreatRecs
import Derived.Test.YtbnkjgcpjeedfaaGreatSealW
import Derived.Test.YtbnkjgcpjeedfaaGreatPartsB
import Derived.Test.YtbnkjgcpjeedfaaGreatSpSeal
import Derived.Test.YtbnkjgcpjeedfaaGreatSpTake
import Derived.Test.YtbnkjgcpjeedfaaGreatSpFile
import Derived.Test.YtbnkjgcpjeedfaaGreatSpecR
import Derived.Test.YtbnkjgcpjeedfaaGreatBrkNew
namespace Go.Proofs.YtbnkjgcpjeedfaaGreat
set_option maxHeartbeats 2000000
set_option maxRecDepth 100000
set_option linter.unusedSimpArgs false
open Go.RowKit
set_option linter.unusedVariables false
def Qv1 (l:List Qaf) (d:Qaf) (w:World) (e:Ending) (w':World):Prop:=
 (Qcu l d≠0/\e=.returned (.tuple #[.agg #[.slice none 0 0],.int .i64 0,.int .i64 (Qcu l d:Int)])/\Ext w w')\/
  (Qcu l d=0/\∃ v,e=.returned (.tuple #[.agg #[v],.int .i64 (l.length:Int),.int .i64 0])/\w'.ownsRow w.heap.size 40 5 v (l++[Qla l d]).length ((l++[Qla l d]).flatMap Qaf.cells)/\Ext w w')
theorem Qv1.no{l:List Qaf}{d:Qaf}{w w':World}{e:Ending}{k:Nat}(h:Qcu l d=k)(h0:k≠0)(he:e=.returned (.tuple #[.agg #[.slice none 0 0],.int .i64 0,.int .i64 (k:Int)]))(hx:Ext w w'):Qv1 l d w e w':=
 .inl ⟨by omega,by rw[h];exact he,hx⟩
theorem entry0(d:Qaf):Qbk ⟨d.topic,0,d.time,d.key,d.body⟩=(Qcn d.topic&&Qef d.time d.key d.body):=by
 have h:inR (0:Int) 0 511=true:=by decide
 simp only[Qbk,h,Bool.and_true]
theorem Qvd(A:Option Addr)(c:Nat)(l:List Qaf)(d:Qaf)(w:World)(hr:SlF AnyB Qaf.cells 5 w A l c)(hl:l.length<=512)(hd:d.Ok) :
 Calls Tryz.prog 168 #[.agg #[.slice A l.length c],.string d.topic,.int .i64 d.time,.string d.key,.string d.body] w (Qv1 l d w):=by
 by_cases hc:Qcu l d=0
 · obtain⟨h1,h2,h3⟩:=Qtm hc
   have h:=Qvc A c l ⟨d.topic,0,d.time,d.key,d.body⟩ w hr h3 ⟨hd.1,(show(Lit.int .i64 0).wf=true by decide),hd.2.2.1,hd.2.2.2.1,hd.2.2.2.2⟩ rfl h1 (by rw[entry0,h1,h2];rfl)
   refine h.mono ?_
   rintro e w' ⟨v,rfl,ho,hx⟩
   exact .inr ⟨hc,v,rfl,ho,hx⟩
 have HC:=hU hc
 have HD:=hU hd
 obtain⟨B0,B1,he⟩:=Qcq w #[.slice A l.length c] #[.slice none 0 0] 26 26
 obtain⟨g0,hg0⟩:∃ g0,g0=w.heap.size:=⟨_,rfl⟩
 obtain⟨g1,hg1⟩:∃ g1,g1=w.heap.size+1:=⟨_,rfl⟩
 go_enter Tryz.func168,Tryz.ntmps168
 go_upto_region 1 with fail
 obtain⟨w3,hw3⟩:∃ w3,w3=(w.alloc (.cells #[.slice A l.length c] 26)).alloc (.cells #[.slice none 0 0] 26):=⟨_,rfl⟩
 rw[<-hw3] at B0 B1 he
 rw[<-hw3]
 rw[<-hg1] at B1
 rw[<-hg0] at B0
 rw[<-hg1,<-hg0]
 have hw:w.heap.size<=g1:=by omega
 clear hw3 hg0 hg1 hr hc
 go_wp2_with fail
 refine(Qcf d.topic _ HD.out.1).mono ?_
 rintro e w4 ⟨rfl,rfl⟩
 cases p1:Qcn d.topic
 · have E:=hU (ad2 (l:=l) p1)
   obtain⟨r1,f1⟩:=B1.rules
   have Z:=hU (show Blk (w3.setCell ⟨g1,0,none⟩ (.slice none 0 0)) g1 26 #[.slice none 0 0] from B1.put 0 [.slice none 0 0] _ (by simp) (by rfl))
   have X:=hU (show Ext w (w3.setCell ⟨g1,0,none⟩ (.slice none 0 0)) from Below.setCell he (p:=⟨g1,0,none⟩) hw _)
   clear B0 B1 he
   go_wp2_with fail
   exact Qh5 (s0:=10) (s1:=11) (s2:=12) (t0:=26) rfl rfl Z.out Tryz.underlying26 rfl (by kernel_rfl) rfl (Qv1.no E.out (by decide) rfl X.out)
 go_wp2_with fail
 refine(Qeo ⟨d.topic,0,d.time,d.key,d.body⟩ _ ⟨HD.out.1,(show(Lit.int .i64 0).wf=true by decide),HD.out.2.2.1,HD.out.2.2.2.1,HD.out.2.2.2.2⟩).mono ?_
 rintro e w4 ⟨rfl,h1⟩
 replace he:=he.next h1;replace B0:=B0.ext h1;replace B1:=B1.ext h1
 clear h1
 rw[entry0,p1,Bool.true_and]
 cases p2:Qef d.time d.key d.body
 · have E:=hU (ad3 (l:=l) p1 p2)
   obtain⟨r1,f1⟩:=B1.rules
   have Z:=hU (show Blk (w4.setCell ⟨g1,0,none⟩ (.slice none 0 0)) g1 26 #[.slice none 0 0] from B1.put 0 [.slice none 0 0] _ (by simp) (by rfl))
   have X:=hU (show Ext w (w4.setCell ⟨g1,0,none⟩ (.slice none 0 0)) from Below.setCell he (p:=⟨g1,0,none⟩) hw _)
   clear B0 B1 he
   go_wp2_with fail
   exact Qh5 (s0:=10) (s1:=11) (s2:=12) (t0:=26) rfl rfl Z.out Tryz.underlying26 rfl (by kernel_rfl) rfl (Qv1.no E.out (by decide) rfl X.out)
 by_cases p3:512<=l.length
 · have E:=hU (ad4 p1 p2 p3)
   have g0_:((l.length:Int)==512)=true:=beq_iff_eq.2 (by omega)
   obtain⟨r0,f0⟩:=B0.rules
   obtain⟨r1,f1⟩:=B1.rules
   have Z:=hU (show Blk (w4.setCell ⟨g1,0,none⟩ (.slice none 0 0)) g1 26 #[.slice none 0 0] from B1.put 0 [.slice none 0 0] _ (by simp) (by rfl))
   have X:=hU (show Ext w (w4.setCell ⟨g1,0,none⟩ (.slice none 0 0)) from Below.setCell he (p:=⟨g1,0,none⟩) hw _)
   clear B0 B1 he
   go_wp2_with fail
   exact Qh5 (s0:=10) (s1:=11) (s2:=12) (t0:=26) rfl rfl Z.out Tryz.underlying26 rfl (by kernel_rfl) rfl (Qv1.no E.out (by decide) rfl X.out)
 exact absurd (ad0 p1 p2 p3) HC.out
set_option maxHeartbeats 16000000
theorem wf_nat{k:Nat}(h:k<=1048576):(Lit.int .i64 (k:Int)).wf=true:=by
 have h1:(IntKind.min .i64)=-9223372036854775808:=by decide
 have h2:(IntKind.max .i64)=9223372036854775807:=by decide
 simp only[Lit.wf,h1,h2,Bool.and_eq_true,decide_eq_true_eq];omega
theorem new_ok{b:Qad}{d:Qaf}(h1:d.Ok)(h:b.log.entries.length<=1048576):(Qfw b d).Ok:=by
 have h2:=Qlt b.log.entries d.topic
 refine⟨h1.1,?_,h1.2.2.1,h1.2.2.2.1,h1.2.2.2.2⟩
 show(Lit.int .i64 (cntT b.log.entries d.topic:Int)).wf=true
 exact wf_nat (by omega)
theorem Qot(b:Qad)(d:Qaf)(A0:Option Addr)(a0:Nat)(A1:Option Addr)(a1:Nat)(A2:Option Addr)(a2:Nat)(A3:Option Addr)(a3:Nat)(A4:Option Addr)(a4:Nat)(w:World)(s:BArg AnyB w b A0 a0 A1 a1 A2 a2 A3 a3 A4 a4)(hk:TxOk b)(hd:d.Ok)(hB:Qar b=true) :
 Calls Tryz.prog 97 #[.agg (brkV b A0 a0 A1 a1 A2 a2 A3 a3 A4 a4).toArray,.string d.topic,.int .i64 d.time,.string d.key,.string d.body] w (Qym (pbB b d) (pbW b d) (pbL b d) (Qca b d) w):=by
 have hp:=Qbh hB
 have ff:=Qfl hp.2.2.1 hp.2.2.2.2.1 hp.2.2.2.2.2.2.2 0
 have fl:=Qhp (b:=b) hp.2.1 hp.2.2.2.1 hp.2.2.2.2.2.2.1 0
 have hfo:=(Qg8 fl ff).2
 have HD:=hU hd;have HPB:=hU hB
 obtain⟨n,hn⟩:∃ n,n=b.log.entries.length:=⟨_,rfl⟩
 have hnl:n<=512:=by rw[hn];exact hp.2.1
 have HN:=hU hn
 have LA:=hU (fun(W:World) (hW:Ext w W)=>Qvd A0 a0 b.log.entries d W (s.ext hW).e hp.2.1 hd)
 have HD2:=hU (new_ok (b:=b) hd (by omega))
 have LW:Hid (∀(W:World) (t:ByteArray) (ht:t.size<=maxLen) (hW:Ext w W),Calls Tryz.prog 165 #[.agg (brkV b A0 a0 A1 a1 A2 a2 A3 a3 A4 a4).toArray,.int .i64 0,.string t] W fun e w'=>∃ v,e=.returned v/\w'.ownsRow W.heap.size 50 3 v 1 (Qcs b 0 t).cells/\Ext W w'):=hU (fun W t ht hW=>Qic b 0 (by decide) t A0 a0 A1 a1 A2 a2 A3 a3 A4 a4 W (s.ext hW) hk (by omega) (fun t ht=>Qcx (by have:=(ff t ht).2;omega)) hfo ht)
 have CB:Hid (∀(W:World) (hW:Ext w W),Calls Tryz.prog 164 #[.agg (brkV b A0 a0 A1 a1 A2 a2 A3 a3 A4 a4).toArray] W fun e w'=>∃ V0 v0 V1 v1 V2 v2 V3 v3 V4 v4,e=.returned (.agg (brkV b V0 v0 V1 v1 V2 v2 V3 v3 V4 v4).toArray)/\Qb9 W.heap.size w' b (.slice V0 b.log.entries.length v0) (.slice V1 b.receipts.length v1) (.slice V2 b.heads.length v2) (.slice V3 b.sealed.leaves.peaks.length v3) (.slice V4 b.sealed.taken.peaks.length v4)/\(∀ x,(Value.slice V3 b.sealed.leaves.peaks.length v3).ownBlock=some x->(Value.slice V4 b.sealed.taken.peaks.length v4).ownBlock≠some x)/\Ext W w'):=hU (fun W hW=>Qju b A0 a0 A1 a1 A2 a2 A3 a3 A4 a4 W (s.ext hW) hk.n)
 obtain⟨cs,hcs⟩:∃ cs,cs=(brkV b A0 a0 A1 a1 A2 a2 A3 a3 A4 a4):=⟨_,rfl⟩
 have HL13:=hU (show cs.length=13 by rw[hcs];rfl)
 have BH:Hid (∀(W:World) (g:Nat),Blk W g 37 cs.toArray->W.cell? ⟨g,1,none⟩=some (.slice A0 n a0)):=hU (fun W g h=>by
  rw[hcs] at h
  rw[hn]
  exact h.cell 1)
 rw[<-hn] at LA
 rw[<-hcs] at LW CB
 rw[<-hcs]
 clear s hk hd hB hp ff fl hfo hcs hn
 obtain⟨B1,B3,he⟩:=Qcq w cs.toArray #[.int .i64 0,.slice none 0 0,.slice none 0 0,.slice none 0 0,.int .i64 0,.slice none 0 0,.int .i64 0,.slice none 0 0,.int .i64 0,.int .i64 0,.string ⟨#[]⟩,.int .i64 0,.string ⟨#[]⟩] 37 37
 obtain⟨g1,hg1⟩:∃ g1,g1=w.heap.size:=⟨_,rfl⟩
 obtain⟨g3,hg3⟩:∃ g3,g3=w.heap.size+1:=⟨_,rfl⟩
 go_enter Tryz.func97,Tryz.ntmps97
 go_upto_region 1 with fail
 obtain⟨w3,hw3⟩:∃ w3,w3=(w.alloc (.cells cs.toArray 37)).alloc (.cells #[.int .i64 0,.slice none 0 0,.slice none 0 0,.slice none 0 0,.int .i64 0,.slice none 0 0,.int .i64 0,.slice none 0 0,.int .i64 0,.int .i64 0,.string ⟨#[]⟩,.int .i64 0,.string ⟨#[]⟩] 37):=⟨_,rfl⟩
 rw[<-hw3] at B1 B3 he
 rw[<-hw3]
 rw[<-hg3] at B3
 rw[<-hg1] at B1
 rw[<-hg3,<-hg1]
 have h13:g1<g3:=by omega
 have hw:w.heap.size<=g3:=by omega
 clear hw3 hg1 hg3
 have x1:=BH.out _ _ B1
 go_wp2_with fail
 refine(LA.out _ he).mono ?_
 rintro e w4 (⟨hne,rfl,h1⟩|⟨h0,v,rfl,ho,h1⟩)
 · obtain⟨cc,hcc⟩:∃ cc,cc=Qcu b.log.entries d:=⟨_,rfl⟩
   have E:=hU (show Qca b d=cc by rw[Qca,HPB.out,hcc];rfl)
   rw[<-hcc] at hne
   rw[<-hcc]
   clear hcc
   have z0:((cc:Int) != 0)=true:=by rw[bne_iff_ne];omega
   have HNE:=hU hne
   replace he:=he.next h1;replace B3:=B3.ext h1
   clear h1 B1 LA x1 hne
   go_upto_region 3 with fail
   have hq:=Ext.new (Below.refl w4.heap.size w4) (.cells #[.slice none 0 0] 26)
   replace he:=he.next hq;replace B3:=B3.ext hq
   clear hq
   generalize w4.alloc (.cells #[.slice none 0 0] 26)=w5 at *
   have hxa:=Ext.new (Below.refl w5.heap.size w5) (.cells #[] 50)
   have B3a:=B3.ext hxa;have hea:=he.next hxa
   have T4:=hU (B3a.there 0 13 (by simp))
   obtain⟨wz,hwz,hz,hx,ho⟩:∃ wz,wz=(w5.alloc (.cells #[] 50)).setCells g3 0 [.int .i64 0,.slice none 0 0,.slice none 0 0,.slice none 0 0,.int .i64 0,.slice none 0 0,.int .i64 0,.slice none 0 0,.int .i64 0,.int .i64 0,.string ⟨#[]⟩,.int .i64 0,.string ⟨#[]⟩]/\Blk wz g3 37 #[.int .i64 0,.slice none 0 0,.slice none 0 0,.slice none 0 0,.int .i64 0,.slice none 0 0,.int .i64 0,.slice none 0 0,.int .i64 0,.int .i64 0,.string ⟨#[]⟩,.int .i64 0,.string ⟨#[]⟩]/\Ext w wz/\wz.ownsRow w.heap.size 50 3 (.slice (some ⟨w5.heap.size,0,none⟩) 0 0) 0 []:=⟨_,rfl,Qas B3a [.int .i64 0,.slice none 0 0,.slice none 0 0,.slice none 0 0,.int .i64 0,.slice none 0 0,.int .i64 0,.slice none 0 0,.int .i64 0,.int .i64 0,.string ⟨#[]⟩,.int .i64 0,.string ⟨#[]⟩] rfl,Qaa hw [.int .i64 0,.slice none 0 0,.slice none 0 0,.slice none 0 0,.int .i64 0,.slice none 0 0,.int .i64 0,.slice none 0 0,.int .i64 0,.int .i64 0,.string ⟨#[]⟩,.int .i64 0,.string ⟨#[]⟩] 0 _ hea,Qa2 (Qbd w5 50 3) B3.lt he.size [.int .i64 0,.slice none 0 0,.slice none 0 0,.slice none 0 0,.int .i64 0,.slice none 0 0,.int .i64 0,.slice none 0 0,.int .i64 0,.int .i64 0,.string ⟨#[]⟩,.int .i64 0,.string ⟨#[]⟩] 0⟩
   have HW:=hU hwz;have Z4:=hU hz;have X4:=hU hx;have OZ:=hU ho
   clear hwz hz hx ho hxa B3a hea B3 he
   go_wp2_with (refine Qac rfl 37 _ _ rfl rfl g3 0 [.int .i64 0,.slice none 0 0,.slice none 0 0,.slice none 0 0,.int .i64 0,.slice none 0 0,.int .i64 0,.slice none 0 0,.int .i64 0,.int .i64 0,.string ⟨#[]⟩,.int .i64 0,.string ⟨#[]⟩] rfl rfl T4.out (by kernel_rfl) (by rfl) ?_;rw[<-HW.out])
   exact Qkc (s0:=10) (s1:=11) (s2:=12) (s3:=13) rfl rfl Z4.out Tryz.underlying37 rfl (by kernel_rfl) rfl (Qxi E.out HNE.out rfl OZ.out X4.out)
 have E:=hU (show Qca b d=0 by rw[Qca,HPB.out];exact h0)
 have ho:=Qaj (B':=w.heap.size) ho he.size
 obtain⟨V,v,rfl,_⟩:=Qae ho
 replace he:=he.next h1;replace B1:=B1.ext h1;replace B3:=B3.ext h1
 obtain⟨d2,hd2⟩:∃ d2,d2=Qfw b d:=⟨_,rfl⟩
 rw[<-hd2] at HD2
 have TX:=hU (show Qa3 d2=Qa3 (Qfw b d) by rw[hd2])
 have hml:(b.log.entries++[Qfw b d]).length=n+1:=by rw[HN.out];simp
 have hdl:(b.log.entries++[Qfw b d])[n]?=some d2:=by rw[HN.out,hd2];simp
 rw[show Qla b.log.entries d=Qfw b d from rfl,hml] at ho
 rw[show Qla b.log.entries d=Qfw b d from rfl,hml]
 have hz4:=he.size
 rw[<-HN.out]
 clear h1 h0 x1 LA hd2
 go_upto_region 2 with fail
 have Q4:=Blk.new w4 26 #[.slice V (n+1) v]
 have h1:=Ext.new (Below.refl w4.heap.size w4) (.cells #[.slice V (n+1) v] 26)
 replace he:=he.next h1;replace B1:=B1.ext h1;replace B3:=B3.ext h1;replace ho:=Qag ho h1
 obtain⟨q4,hq4⟩:∃ q4,q4=w4.heap.size:=⟨_,rfl⟩
 have hqw:w.heap.size<=q4:=by rw[hq4];exact hz4
 rw[<-hq4] at Q4
 rw[<-hq4]
 clear h1 hq4
 generalize w4.alloc (.cells #[.slice V (n+1) v] 26)=w5 at *
 have sv:SlF AnyB Qaf.cells 5 w5 V (b.log.entries++[Qfw b d]) v:=Qb6 (by rw[hml];exact ho)
 obtain⟨bb,off,rfl,hbb,hc⟩:=Qbb.at_ sv.reads (k:=n) (by rw[hml];omega)
 obtain⟨c0,c1,c2,c3,c4⟩:=Qdt hc hdl
 have hlt:n<n+1:=Nat.lt_succ_self n
 obtain⟨r4,f4⟩:=Q4.rules
 have HO:=hU ho
 clear hc sv ho hbb
 go_wp2_with fail
 refine(Qd4 d2 _ HD2.out).mono ?_
 rintro e w7 ⟨rfl,h1⟩
 replace he:=he.next h1;replace B1:=B1.ext h1;replace B3:=B3.ext h1;replace Q4:=Q4.ext h1
 replace HO:=hU (Qag HO.out h1)
 clear h1 c0 c1 c2 c3 c4 r4 f4
 obtain⟨tx,htx⟩:∃ tx,tx=Qa3 d2:=⟨_,rfl⟩
 rw[<-htx]
 have HTX:=hU (show tx=Qa3 (Qfw b d) by rw[htx,TX.out])
 clear htx
 have RX:=hU (Blk.range B1)
 go_wp2_with (refine wpList_load_mid rfl 37 _ rfl g1 0 rfl cs _ RX.out Tryz.underlying37 rfl (by rw[HL13.out];kernel_rfl) ?_)
 refine(CB.out _ he).mono ?_
 rintro e w9 ⟨U0,u0,U1,u1,U2,u2,U3,u3,U4,u4,rfl,rows0,ap,h1⟩
 have rows:Qb9 w.heap.size w9 b (.slice U0 b.log.entries.length u0) (.slice U1 b.receipts.length u1) (.slice U2 b.heads.length u2) (.slice U3 b.sealed.leaves.peaks.length u3) (.slice U4 b.sealed.taken.peaks.length u4):=⟨Qaj rows0.e he.size,Qaj rows0.r he.size,Qaj rows0.h he.size,RowT.ofBase rows0.p he.size,RowT.ofBase rows0.q he.size⟩
 have AP:=hU ap
 have qw:=he.size
 have b3w:=B3.lt;have b1w:=B1.lt;have bqw:=Q4.lt
 have h89:=h1.size
 replace he:=he.next h1;replace B1:=B1.ext h1;replace B3:=B3.ext h1;replace Q4:=Q4.ext h1
 replace HO:=hU (Qag HO.out h1)
 clear h1 RX CB rows0 ap
 obtain⟨ns,hns⟩:∃ ns,ns=brkV b U0 u0 U1 u1 U2 u2 U3 u3 U4 u4:=⟨_,rfl⟩
 have HN13:=hU (show ns.length=13 by rw[hns];rfl)
 have HNA:=hU (show ns.all (·.oneCell')=true by rw[hns];rfl)
 rw[<-hns]
 have HNS:=hU hns
 clear hns
 have KZ:=Blk.new w9 37 #[.int .i64 0,.slice none 0 0,.slice none 0 0,.slice none 0 0,.int .i64 0,.slice none 0 0,.int .i64 0,.slice none 0 0,.int .i64 0,.int .i64 0,.string ⟨#[]⟩,.int .i64 0,.string ⟨#[]⟩]
 obtain⟨wa,hwa,B7,hx⟩:∃ wa,wa=(w9.alloc (.cells #[.int .i64 0,.slice none 0 0,.slice none 0 0,.slice none 0 0,.int .i64 0,.slice none 0 0,.int .i64 0,.slice none 0 0,.int .i64 0,.int .i64 0,.string ⟨#[]⟩,.int .i64 0,.string ⟨#[]⟩] 37)).setCells w9.heap.size 0 ns/\Blk wa w9.heap.size 37 ns.toArray/\Ext w9 wa:=⟨_,rfl,Qas KZ ns (by rw[HN13.out];rfl),Qaa (W:=w9) (Nat.le_refl _) ns 0 _ (Ext.new (Below.refl _ _) _)⟩
 have T4:=hU (show World.there (w9.alloc (.cells #[.int .i64 0,.slice none 0 0,.slice none 0 0,.slice none 0 0,.int .i64 0,.slice none 0 0,.int .i64 0,.slice none 0 0,.int .i64 0,.int .i64 0,.string ⟨#[]⟩,.int .i64 0,.string ⟨#[]⟩] 37)) w9.heap.size 0 ns.length by rw[HN13.out];exact KZ.there 0 13 (by simp));have HW:=hU hwa
 replace he:=he.next hx;replace B1:=B1.ext hx;replace B3:=B3.ext hx;replace Q4:=Q4.ext hx;replace rows:=rows.ext hx
 replace HO:=hU (Qag HO.out hx)
 have RW:=hU rows
 clear hwa hx KZ rows
 go_upto_region 6 with(refine Qac rfl 37 _ _ rfl rfl w9.heap.size 0 ns rfl rfl T4.out (by rw[HN13.out];kernel_rfl) HNA.out ?_;rw[<-HW.out])
 obtain⟨g7,hg7⟩:∃ g7,g7=w9.heap.size:=⟨_,rfl⟩
 rw[<-hg7] at B7 h89
 rw[<-hg7]
 clear T4 HW hg7 HNA
 have B7L:Blk wa g7 37 #[.int .i64 b.width,.slice U0 b.log.entries.length u0,.slice U1 b.receipts.length u1,.slice U2 b.heads.length u2,.int .i64 b.sealed.leaves.size,.slice U3 b.sealed.leaves.peaks.length u3,.int .i64 b.sealed.taken.size,.slice U4 b.sealed.taken.peaks.length u4,.int .i64 b.sealed.head.number,.int .i64 b.sealed.head.size,.string b.sealed.head.root,.int .i64 b.sealed.head.taken,.string b.sealed.head.takenRoot]:=by have h:=B7;rw[HNS.out] at h;exact h
 obtain⟨r4,f4⟩:=Q4.rules
 have x1:wa.cell? ⟨g7,1,none⟩=some (.slice U0 n u0):=by rw[HN.out];exact B7L.cell 1
 have x2:=B7L.frozen 1
 obtain⟨ks,hks⟩:∃ ks,ks=Qe8 (pbB0 b d) (.slice (some ⟨bb,off,none⟩) (n+1) v) (.slice U1 b.receipts.length u1) (.slice U2 b.heads.length u2) (.slice U3 b.sealed.leaves.peaks.length u3) (.slice U4 b.sealed.taken.peaks.length u4):=⟨_,rfl⟩
 have z1:Blk (wa.setCell ⟨g7,1,none⟩ (.slice (some ⟨bb,off,none⟩) (n+1) v)) g7 37 ks.toArray:=B7L.put 1 [.slice (some ⟨bb,off,none⟩) (n+1) v] ks.toArray (by simp) (by rw[hks];rfl)
 have fe:wa.ownsRow w.heap.size 40 5 (.slice (some ⟨bb,off,none⟩) (n+1) v) (pbB0 b d).log.entries.length ((pbB0 b d).log.entries.flatMap Qaf.cells):=by
  rw[show(pbB0 b d).log.entries.length=n+1 from hml];exact HO.out
 have z2:Qb9 w.heap.size (wa.setCell ⟨g7,1,none⟩ (.slice (some ⟨bb,off,none⟩) (n+1) v)) (pbB0 b d) (.slice (some ⟨bb,off,none⟩) (n+1) v) (.slice U1 b.receipts.length u1) (.slice U2 b.heads.length u2) (.slice U3 b.sealed.leaves.peaks.length u3) (.slice U4 b.sealed.taken.peaks.length u4):=⟨Qa1 fe B7 (by decide) [_] _,Qa1 RW.out.r B7 (by decide) [_] _,Qa1 RW.out.h B7 (by decide) [_] _,Qa1 RW.out.p B7 (by decide) [_] _,Qa1 RW.out.q B7 (by decide) [_] _⟩
 have z3:=B1.far (p:=⟨g7,1,none⟩) (by show g1≠g7;omega) (.slice (some ⟨bb,off,none⟩) (n+1) v)
 have z4:=B3.far (p:=⟨g7,1,none⟩) (by show g3≠g7;omega) (.slice (some ⟨bb,off,none⟩) (n+1) v)
 have z5:Ext w (wa.setCell ⟨g7,1,none⟩ (.slice (some ⟨bb,off,none⟩) (n+1) v)):=Below.setCell he (p:=⟨g7,1,none⟩) (by show w.heap.size<=g7;omega) _
 have HM13:=hU (show ks.length=13 by rw[hks];rfl)
 have HMA:=hU (show ks.all (·.oneCell')=true by rw[hks];rfl)
 have HKS:=hU (show ks=Qe8 (pbB0 b d) (.slice (some ⟨bb,off,none⟩) (pbB0 b d).log.entries.length v) (.slice U1 b.receipts.length u1) (.slice U2 b.heads.length u2) (.slice U3 b.sealed.leaves.peaks.length u3) (.slice U4 b.sealed.taken.peaks.length u4) by rw[hks,show(pbB0 b d).log.entries.length=n+1 from hml])
 have Z1:=hU z1;have Z2:=hU z2;have Z3:=hU z3;have Z4:=hU z4;have Z5:=hU z5
 have HML:=hU (show(pbB0 b d).log.entries.length=n+1 from hml)
 clear hks z1 z2 z3 z4 z5 he B1 B3 B7 B7L Q4 RW HO hdl fe HNS hml HN13
 go_upto_region 7 with fail
 generalize wa.setCell ⟨g7,1,none⟩ (.slice (some ⟨bb,off,none⟩) (n+1) v)=we at *
 clear x1 x2 r4 f4
 have rows:=Z2.out
 refine wp_region_held_drew (S:=fun w'=>Blk w' g7 37 ks.toArray/\Blk w' g1 37 cs.toArray/\(∃ ds:Array Value,ds.size=13/\Blk w' g3 37 ds)/\Ext w w') (by kernel_rfl) ⟨Z1.out.drew,Z3.out.drew,⟨_,rfl,Z4.out.drew⟩,Z5.out.drew⟩ (fun hH=>?_)
 replace rows:=rows.ext (Below.refl _ _).drew
 clear Z1 Z2 Z3 Z4 Z5
 refine wpAnyH_take (i:=0) (oi:=_) (v:=_) rfl (by kernel_rfl) (by kernel_rfl) (by kernel_rfl) (fun _ _ _ h=>h) (yieldsIf_load_mid (by rfl) 37 _ rfl g7 0 rfl ks _ (fun w' h=>Blk.range h.1) Tryz.underlying37 rfl (by rw[HM13.out];kernel_rfl)) hH ?_
 try simp only[zB]
 refine wpAnyH_take (i:=1) (oi:=_) (v:=_) rfl (by kernel_rfl) (by kernel_rfl) (by kernel_rfl) (fun _ _ _ h=>h) (yieldsIf_load_mid (by rfl) 37 _ rfl g1 0 rfl cs _ (fun w' h=>Blk.range h.2.1) Tryz.underlying37 rfl (by rw[HL13.out];kernel_rfl)) hH ?_
 try simp only[zB]
 refine tk 2 (.string tx) (some 51) hH ?_
 try simp only[zA]
 refine tk 4 (.int .i64 (n:Int)) (some 53) hH ?_
 try simp only[zA]
 refine oneH 3 (oi:=_) (some 52) (by kernel_rfl) rfl rfl rfl (fun K' hK=>?_)
 refine⟨?_⟩
 rw[if_pos (by rfl)]
 go_simp
 refine(LW.out _ tx (by rw[HTX.out];exact Qcx (Qdr _)) hH.2.2.2).mono ?_
 rintro e wf ⟨vw,rfl,ow,h1⟩
 have ow:=Qaj (B':=w.heap.size) ow hH.2.2.2.size
 replace rows:=rows.ext h1
 refine hK.out _ _ ⟨_,rfl⟩ (⟨hH.1.ext h1,hH.2.1.ext h1,(by obtain⟨ds,d1,d2⟩:=hH.2.2.1;exact⟨ds,d1,d2.ext h1⟩),hH.2.2.2.next h1⟩) (fun hH2=>?_)
 clear hK K' hH h1
 have hH:=hH2
 clear hH2
 try simp only[zB]
 refine oneH 5 (oi:=_) none (by kernel_rfl) rfl rfl rfl (fun K' hK=>?_)
 refine⟨?_⟩;rw[if_pos (by rfl)]
 obtain⟨y1,y2,⟨ds,d1,d2⟩,y4⟩:=hH
 refine Qao 37 _ _ (by rfl) (by rfl) g3 0 ks (by rfl) (by rfl) (by rw[HM13.out];exact d2.there 0 13 (by omega)) (by rw[HM13.out];kernel_rfl) HMA.out ?_
 have bz:=Qas d2 ks (by rw[HM13.out];exact d1)
 have BZ:=hU bz
 have OO:Hid (Qb9 w.heap.size (wf.setCells g3 0 ks) (pbB0 b d) (.slice (some ⟨bb,off,none⟩) (pbB0 b d).log.entries.length v) (.slice U1 b.receipts.length u1) (.slice U2 b.heads.length u2) (.slice U3 b.sealed.leaves.peaks.length u3) (.slice U4 b.sealed.taken.peaks.length u4)):=hU (by rw[HML.out];exact⟨Qa1 rows.e d2 (by decide) ks 0,Qa1 rows.r d2 (by decide) ks 0,Qa1 rows.h d2 (by decide) ks 0,Qa1 rows.p d2 (by decide) ks 0,Qa1 rows.q d2 (by decide) ks 0⟩)
 have OW:=hU (Qa1 ow d2 (by decide) ks 0)
 have hn:Blk (wf.setCells g3 0 ks) g7 37 ks.toArray/\Blk (wf.setCells g3 0 ks) g1 37 cs.toArray/\(∃ ds:Array Value,ds.size=13/\Blk (wf.setCells g3 0 ks) g3 37 ds)/\Ext w (wf.setCells g3 0 ks):=⟨y1.farCells (by omega) ks 0,y2.farCells (by omega) ks 0,⟨_,by rw[List.size_toArray,HM13.out],bz⟩,Qaa hw ks 0 _ y4⟩
 refine hK.out _ _ ⟨undef,rfl⟩ (hn) (fun hH2=>?_)
 clear hK K' hn
 have hH:=hH2
 clear hH2
 try simp only[zB]
 clear rows ow y1 y2 d1 d2 y4 bz
 generalize wf.setCells g3 0 ks=wg at *
 obtain⟨V9,v9,rfl,_⟩:=Qae OW.out
 refine tk 6 (.slice V9 1 v9) (some 11) hH ?_
 try simp only[zA]
 refine tk 7 (.int .i64 (n:Int)) (some 12) hH ?_
 try simp only[zA]
 refine tk 8 (.int .i64 0) (some 13) hH ?_
 try simp only[zA]
 have HX:=hU hH.2.2.2
 clear hH
 refine wpAnyH_done (by kernel_rfl) ?_ _
 go_wp2_with fail
 refine Qkc (s0:=10) (s1:=11) (s2:=12) (s3:=13) rfl rfl BZ.out Tryz.underlying37 rfl (by rw[List.size_toArray,HM13.out];kernel_rfl) rfl ?_
 rw[(Qhh E.out).1,(Qhh E.out).2.1,(Qhh E.out).2.2,E.out,<-HTX.out,<-HN.out]
 exact⟨_,_,_,_,_,_,by rw[HKS.out];rfl,OO.out,AP.out,by simpa using OW.out,HX.out⟩
theorem Qs0{b:Qad}(hB:Qar b=true)(h:Qcw b=0):Qar (snB b)=true:=by
 rw[(Qjp h).1]
 rw[Qcw,hB,if_pos rfl] at h
 exact Qpa hB h
theorem Qsy{b:Qad}{r:Qab}(hB:Qar b=true)(h:Qcp b r=0):Qar (taB b r)=true:=by
 rw[(Qjl h).1]
 rw[Qcp,hB,if_pos rfl] at h
 exact Qo9 hB h
def RB (k:Nat) (b:Qad):Prop:=Qar b=true/\b.log.entries.length<=k
theorem RB.up{k:Nat}{b:Qad}(h:RB k b):RB (k+1) b:=⟨h.1,Nat.le_succ_of_le h.2⟩
theorem Qsz{k:Nat}{b:Qad}(hB:RB k b)(h:Qcw b=0):RB (k+1) (snB b):=⟨Qs0 hB.1 h,by rw[(Qjp h).1];exact Nat.le_succ_of_le hB.2⟩
theorem Qsx{k:Nat}{b:Qad}{r:Qab}(hB:RB k b)(h:Qcp b r=0):RB (k+1) (taB b r):=⟨Qsy hB.1 h,by rw[(Qjl h).1];exact Nat.le_succ_of_le hB.2⟩
theorem Quz{k:Nat}{b:Qad}{d:Qaf}(hB:RB k b)(h:Qca b d=0):RB (k+1) (pbB b d):=⟨Qu0 hB.1 h,by rw[(Qhh h).1];show(b.log.entries++[Qfw b d]).length<=k+1;rw[List.length_append];exact Nat.succ_le_succ hB.2⟩
def DdAns (k:Nat) (N:List Value) (cc:Nat) (K:Nat) (w':World):Prop:=N.length=13/\N.all (·.oneCell')=true/\(cc=0->∃ b,RB (k+1) b/\BVal K b N w')
theorem dd_of{k K:Nat}{B:Qad}{cc:Nat}{ve vr vh v1 v2:Value}{w:World}(h:Qb9 K w B ve vr vh v1 v2)(ha:∀ x,v1.ownBlock=some x->v2.ownBlock≠some x)(hr:cc=0->RB (k+1) B):DdAns k (Qe8 B ve vr vh v1 v2) cc K w:=by
 have hv:=Qwb h ha
 exact⟨hv.len,hv.one,fun h0=>⟨B,hr h0,hv⟩⟩
theorem Qre{k:Nat}{p:Nat->Prop}{b:Qad}{M:List Value}{W:World}(hB:RB k b)(h:BRdL p b M W) :
 Calls Tryz.prog 95 #[.agg M.toArray] W fun e w'=>∃(N:List Value) (u:Value) (cc:Nat),e=.returned (.tuple #[.agg N.toArray,u,.int .i64 (cc:Int)])/\DdAns k N cc W.heap.size w'/\Ext W w':=by
 obtain⟨X0,x0,X1,x1,X2,x2,X3,x3,X4,x4,rfl,h2⟩:=h
 refine(Qs7 b X0 x0 X1 x1 X2 x2 X3 x3 X4 x4 W h2.any (Qfb hB.1) hB.1).mono ?_
 rintro e w' ⟨ve,vr,vh,v1,v2,vw,he,hr,ha,_,hx⟩
 exact⟨_,vw,_,he,dd_of hr ha (Qsz hB),hx⟩
theorem Qra{k:Nat}{p:Nat->Prop}{b:Qad}{M:List Value}{W:World}(r:Qab)(hr:r.Ok)(hB:RB k b)(h:BRdL p b M W) :
 Calls Tryz.prog 96 #[.agg M.toArray,.agg #[.string r.reader,.string r.topic,.int .i64 r.index]] W fun e w'=>∃(N:List Value) (u:Value) (cc:Nat),e=.returned (.tuple #[.agg N.toArray,u,.int .i64 (cc:Int)])/\DdAns k N cc W.heap.size w'/\Ext W w':=by
 obtain⟨X0,x0,X1,x1,X2,x2,X3,x3,X4,x4,rfl,h2⟩:=h
 refine(Qos b r X0 x0 X1 x1 X2 x2 X3 x3 X4 x4 W h2.any (Qfb hB.1) hr hB.1).mono ?_
 rintro e w' ⟨ve,vr,vh,v1,v2,vw,he,hr,ha,_,hx⟩
 exact⟨_,vw,_,he,dd_of hr ha (Qsx hB),hx⟩
theorem pub_step{k:Nat}{p:Nat->Prop}{b:Qad}{M:List Value}{W:World}(d:Qaf)(hd:d.Ok)(hB:RB k b)(h:BRdL p b M W) :
 Calls Tryz.prog 97 #[.agg M.toArray,.string d.topic,.int .i64 d.time,.string d.key,.string d.body] W fun e w'=>∃(N:List Value) (u:Value) (ll cc:Nat),e=.returned (.tuple #[.agg N.toArray,u,.int .i64 (ll:Int),.int .i64 (cc:Int)])/\DdAns k N cc W.heap.size w'/\Ext W w':=by
 obtain⟨X0,x0,X1,x1,X2,x2,X3,x3,X4,x4,rfl,h2⟩:=h
 refine(Qot b d X0 x0 X1 x1 X2 x2 X3 x3 X4 x4 W h2.any (Qfb hB.1) hd hB.1).mono ?_
 rintro e w' ⟨ve,vr,vh,v1,v2,vw,he,hr,ha,_,hx⟩
 exact⟨_,vw,_,_,he,dd_of hr ha (Quz hB),hx⟩
theorem new_step{n:Int}(hn:inR n 1 32=true)(W:World) :
 Calls Tryz.prog 94 #[.int .i64 n] W fun e w'=>∃ M:List Value,e=.returned (.tuple #[.agg M.toArray,.bool true])/\BVal W.heap.size (Qs6 n) M w'/\Ext W w':=by
 refine(Qli n W hn).mono ?_
 rintro e w' ⟨q,he,hq,kq,hx⟩
 exact⟨_,he,newV hq kq,hx⟩
theorem ent_ok{tp ky bd:ByteArray}{tm:Int}(h1:tp.size<=20)(h2:0<=tm)(h3:tm<1000)(h4:ky.size<=5)(h5:bd.size<=5):Qaf.Ok ⟨tp,0,tm,ky,bd⟩:=
 ⟨by show tp.size<=maxLen;unfold maxLen;omega,Ql2 (k:=0) (by decide) (by decide),Ql2 (k:=tm) h2 (by omega),by show ky.size<=maxLen;unfold maxLen;omega,by show bd.size<=maxLen;unfold maxLen;omega⟩
theorem Qw8{rd tp:ByteArray}{ix:Int}(h1:rd.size<=20)(h2:tp.size<=20)(h3:0<=ix)(h4:ix<3):Qab.Ok ⟨rd,tp,ix⟩:=
 ⟨by show rd.size<=maxLen;unfold maxLen;omega,by show tp.size<=maxLen;unfold maxLen;omega,Ql2 (k:=ix) h3 (by omega)⟩
theorem Qf7:∀ t∈Qj5,t.size<=20:=by
 intro t h
 simp only[Qj5,List.mem_cons,List.not_mem_nil,or_false] at h
 rcases h with rfl|rfl|rfl <;> decide
structure RS0 (w:World) (B g:Nat) (A:Option Addr) (c:Nat) (l:List Int) (q0 g7:Nat) (b:Qad) (M:List Value) (w':World):Prop where
 q:Blk w' q0 37 #[.int .i64 0,.slice none 0 0,.slice none 0 0,.slice none 0 0,.int .i64 0,.slice none 0 0,.int .i64 0,.slice none 0 0,.int .i64 0,.int .i64 0,.string ⟨#[]⟩,.int .i64 0,.string ⟨#[]⟩]
 k:Blk w' g7 37 M.toArray
 v:BVal w.heap.size b M w'
 c:Qc6 w' B g A c l
 x:Qaz g w w'
def RSt (w:World) (B g:Nat) (A:Option Addr) (c:Nat) (l:List Int) (q0 g7 g10:Nat) (b:Qad) (M:List Value) (w':World):Prop:=RS0 w B g A c l q0 g7 b M w'/\∃ N:Array Value,N.size=13/\Blk w' g10 37 N
structure RDs (w:World) (B g q0 g7:Nat):Prop where
 g:g<w.heap.size
 q:w.heap.size<=q0
 k:q0<g7
theorem RS0.ext{w w1 w2:World}{B g q0 g7 c:Nat}{A:Option Addr}{l:List Int}{b:Qad}{M:List Value}(h:RS0 w B g A c l q0 g7 b M w1)(he:Ext w1 w2):RS0 w B g A c l q0 g7 b M w2:=
 ⟨h.q.ext he,h.k.ext he,h.v.ext he,h.c.ext he,h.x.next (Qaz.of_ext he)⟩
theorem RS0.but{w w1 w2:World}{B g q0 g7 c:Nat}{A:Option Addr}{l:List Int}{b:Qad}{M:List Value}(h:RS0 w B g A c l q0 g7 b M w1)(d:RDs w B g q0 g7)(hc:Qc6 w2 B g A c l)(he:Qaz g w1 w2):RS0 w B g A c l q0 g7 b M w2:=by
 have:=d.g;have:=d.q;have:=d.k
 exact⟨h.q.extBut he (by omega),h.k.extBut he (by omega),h.v.but he (by omega),hc,h.x.next he⟩
theorem RS0.far{w w1:World}{B g q0 g7 g10 c:Nat}{A:Option Addr}{l:List Int}{b:Qad}{M:List Value}(h:RS0 w B g A c l q0 g7 b M w1)(d:RDs w B g q0 g7)(h10:g7<g10){N0:Array Value}(hb:Blk w1 g10 37 N0)(N:List Value):RS0 w B g A c l q0 g7 b M (w1.setCells g10 0 N):=by
 have:=d.g;have:=d.q;have:=d.k;have:=h.c.1
 exact⟨h.q.farCells (by omega) N 0,h.k.farCells (by omega) N 0,h.v.putB hb N 0,h.c.far (by omega) (by omega) N 0,Qaz.setCellsNew (by omega) N 0 _ h.x⟩
theorem RS0.take{w w1:World}{B g q0 g7 c:Nat}{A:Option Addr}{l:List Int}{b b':Qad}{M N:List Value}(h:RS0 w B g A c l q0 g7 b M w1)(d:RDs w B g q0 g7)(hv:BVal w.heap.size b' N w1):RS0 w B g A c l q0 g7 b' N (w1.setCells g7 0 N):=by
 have:=d.g;have:=d.q;have:=d.k;have:=h.c.1
 exact⟨h.q.farCells (by omega) N 0,Qas h.k N (by rw[List.size_toArray,h.v.len,hv.len]),hv.putB h.k N 0,h.c.far (by omega) (by omega) N 0,Qaz.setCellsNew (by omega) N 0 _ h.x⟩
theorem RSt.ext{w w1 w2:World}{B g q0 g7 g10 c:Nat}{A:Option Addr}{l:List Int}{b:Qad}{M:List Value}(h:RSt w B g A c l q0 g7 g10 b M w1)(he:Ext w1 w2):RSt w B g A c l q0 g7 g10 b M w2:=by
 obtain⟨N,h1,h2⟩:=h.2
 exact⟨h.1.ext he,N,h1,h2.ext he⟩
theorem RSt.but{w w1 w2:World}{B g q0 g7 g10 c:Nat}{A:Option Addr}{l:List Int}{b:Qad}{M:List Value}(h:RSt w B g A c l q0 g7 g10 b M w1)(d:RDs w B g q0 g7)(h10:g7<g10)(hc:Qc6 w2 B g A c l)(he:Qaz g w1 w2):RSt w B g A c l q0 g7 g10 b M w2:=by
 obtain⟨N,h1,h2⟩:=h.2
 have:=d.g;have:=d.q;have:=d.k
 exact⟨h.1.but d hc he,N,h1,h2.extBut he (by omega)⟩
theorem RSt.put{w w1:World}{B g q0 g7 g10 c:Nat}{A:Option Addr}{l:List Int}{b:Qad}{M:List Value}(h:RSt w B g A c l q0 g7 g10 b M w1)(d:RDs w B g q0 g7)(h10:g7<g10)(N:List Value)(hN:N.length=13):RSt w B g A c l q0 g7 g10 b M (w1.setCells g10 0 N)/\Blk (w1.setCells g10 0 N) g10 37 N.toArray:=by
 obtain⟨N0,h1,h2⟩:=h.2
 have hb:=Qas h2 N (by rw[h1,hN])
 exact⟨⟨h.1.far d h10 h2 N,_,by rw[List.size_toArray,hN],hb⟩,hb⟩
theorem RSt.there{w w1:World}{B g q0 g7 g10 c:Nat}{A:Option Addr}{l:List Int}{b:Qad}{M:List Value}(h:RSt w B g A c l q0 g7 g10 b M w1):w1.there g10 0 13:=by
 obtain⟨N0,h1,h2⟩:=h.2
 exact h2.there 0 13 (by omega)
end Go.Proofs.YtbnkjgcpjeedfaaGreat

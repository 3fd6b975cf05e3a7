/-
  SameC; BrkI; SealT; SpFile: No condition.
-/
import Derived.Test.YtbnkjgcpjeedfaaGreatReopen0
import Derived.Test.YtbnkjgcpjeedfaaGreatHeadsOks
import Derived.Test.YtbnkjgcpjeedfaaGreatPartsB
import Derived.Test.YtbnkjgcpjeedfaaGreatBrkV
import Derived.Test.YtbnkjgcpjeedfaaGreatSealB
import Derived.Test.YtbnkjgcpjeedfaaGreatRightP
import Derived.Test.YtbnkjgcpjeedfaaGreatTextsB
namespace Go.Proofs.YtbnkjgcpjeedfaaGreat
set_option maxHeartbeats 2000000
set_option maxRecDepth 100000
set_option linter.unusedSimpArgs false
open Go.RowKit
set_option linter.unusedVariables false
theorem Qj9(A A':Option Addr)(c c':Nat)(a b:Qfq)(w:World)(ha:Qav w w.heap.size sone 1 A a.peaks)(hb:Qav w w.heap.size sone 1 A' b.peaks)(hla:a.peaks.length<=1048576)(hlb:b.peaks.length<=1048576) :
 Calls Tryz.prog 179 #[.agg #[.int .i64 a.size,.slice A a.peaks.length c],.agg #[.int .i64 b.size,.slice A' b.peaks.length c']] w fun e w'=>e=.returned (.bool (Qcb a b))/\Ext w w':=by
 obtain⟨B0,B1,he⟩:=Qfc w #[.int .i64 a.size,.slice A a.peaks.length c] #[.int .i64 b.size,.slice A' b.peaks.length c'] 31 31
 have He:=hU he
 obtain⟨r0,m0⟩:=B0.rules
 obtain⟨r1,m1⟩:=B1.rules
 have CC:=hU (Qmv A A' c c' a.peaks b.peaks _ (ha.ext he) (hb.ext he) hla hlb)
 clear B0 B1 he
 obtain⟨fin,hfin⟩:∃ fin,fin=Qcb a b:=⟨_,rfl⟩
 rw[<-hfin]
 by_cases p1:a.size=b.size
 · have E:=hU (show fin=Qh8 a.peaks b.peaks by rw[hfin,Qcb,p1];simp)
   have x1:(a.size==b.size)=true:=beq_iff_eq.2 p1
   clear hfin p1
   obtain⟨La,hLa⟩:∃ La,La=a.peaks.length:=⟨_,rfl⟩
   obtain⟨Lb,hLb⟩:∃ Lb,Lb=b.peaks.length:=⟨_,rfl⟩
   rw[<-hLa] at r0 m0 r1 m1 CC He
   rw[<-hLb] at r0 m0 r1 m1 CC He
   rw[<-hLa,<-hLb]
   clear hLa hLb
   go_enter Tryz.func179,Tryz.ntmps179
   go_wp2_with fail
   refine CC.out.mono ?_
   rintro e w1 ⟨rfl,h1⟩
   rw[<-E.out]
   have he:=He.out.next h1
   clear h1
   go_wp2_with fail
   go_ret
   exact⟨rfl,he⟩
 · have E:=hU (show fin=false by rw[hfin,Qcb,beq_false_of_ne p1];rfl)
   have x1:(a.size==b.size)=false:=beq_false_of_ne p1
   clear hfin
   go_enter Tryz.func179,Tryz.ntmps179
   go_wp2_with fail
   go_ret
   exact⟨Qam E.out.symm,He.out⟩
def Qdw (s:Qlb) (A1:Option Addr) (c1:Nat) (A2:Option Addr) (c2:Nat):List Value:=[.int .i64 s.leaves.size,.slice A1 s.leaves.peaks.length c1,.int .i64 s.taken.size,.slice A2 s.taken.peaks.length c2,.int .i64 s.head.number,.int .i64 s.head.size,.string s.head.root,.int .i64 s.head.taken,.string s.head.takenRoot]
theorem Qrh(A1 A2 A3 A4:Option Addr)(c1 c2 c3 c4:Nat)(s t:Qlb)(w:World)(h1:Qav w w.heap.size sone 1 A1 s.leaves.peaks)(h2:Qav w w.heap.size sone 1 A2 s.taken.peaks)(h3:Qav w w.heap.size sone 1 A3 t.leaves.peaks)(h4:Qav w w.heap.size sone 1 A4 t.taken.peaks)
 (l1:s.leaves.peaks.length<=1048576) (l2:s.taken.peaks.length<=1048576) (l3:t.leaves.peaks.length<=1048576) (l4:t.taken.peaks.length<=1048576) :
 Calls Tryz.prog 102 #[.agg (Qdw s A1 c1 A2 c2).toArray,.agg (Qdw t A3 c3 A4 c4).toArray] w fun e w'=>e=.returned (.bool (Qf9 s t))/\Ext w w':=by
 obtain⟨B0,B1,he⟩:=Qfc w (Qdw s A1 c1 A2 c2).toArray (Qdw t A3 c3 A4 c4).toArray 35 35
 have C1:=hU (Qj9 A1 A3 c1 c3 s.leaves t.leaves _ (h1.ext he) (h3.ext he) l1 l3)
 have C2:=hU (fun(W:World) (hW:Ext w W)=>Qj9 A2 A4 c2 c4 s.taken t.taken W (h2.ext hW) (h4.ext hW) l2 l4)
 have K0:=hU B0;have K1:=hU B1;have He:=hU he
 have HQ:=Qak.run_eql s.head t.head
 obtain⟨r0,m0⟩:=B0.rules
 obtain⟨r1,m1⟩:=B1.rules
 obtain⟨fin,hfin⟩:∃ fin,fin=Qf9 s t:=⟨_,rfl⟩
 rw[<-hfin]
 have F:=hU (show fin=(Qcb s.leaves t.leaves&&Qcb s.taken t.taken&&s.head.eqb t.head) from hfin)
 clear B0 B1 he hfin h1 h2 h3 h4
 simp only[Qdw] at C1 K0 K1 He r0 r1 m0 m1 ⊢
 cases p1:Qcb s.leaves t.leaves
 · have E:=hU (show fin=false by rw[F.out,p1];rfl)
   rw[p1] at C1
   go_enter Tryz.func102,Tryz.ntmps102
   go_wp2_with fail
   refine C1.out.mono ?_
   rintro e w1 ⟨rfl,hx⟩
   have he:=He.out.next hx
   clear hx
   go_wp2_with fail
   go_ret
   exact⟨Qam E.out.symm,he⟩
 rw[p1] at C1
 cases p2:Qcb s.taken t.taken
 · have E:=hU (show fin=false by rw[F.out,p1,p2];rfl)
   rw[p2] at C2
   go_enter Tryz.func102,Tryz.ntmps102
   go_wp2_with fail
   obtain⟨g,hg⟩:∃ g,g=w.heap.size:=⟨_,rfl⟩
   rw[<-hg] at K0 K1
   rw[<-hg]
   clear r0 m0 r1 m1 hg
   refine C1.out.mono ?_
   rintro e w1 ⟨rfl,hx⟩
   have he:=He.out.next hx
   have k0:=K0.out.ext hx;have k1:=K1.out.ext hx
   clear hx K0 K1
   obtain⟨r0,m0⟩:=k0.rules
   obtain⟨r1,m1⟩:=k1.rules
   go_wp2_with fail
   refine(C2.out _ he).mono ?_
   rintro e w2 ⟨rfl,hx⟩
   replace he:=he.next hx
   clear hx r0 m0 r1 m1 k0 k1
   go_wp2_with fail
   go_ret
   exact⟨Qam E.out.symm,he⟩
 rw[p2] at C2
 have E:=hU (show fin=s.head.eqb t.head by rw[F.out,p1,p2];rfl)
 go_enter Tryz.func102,Tryz.ntmps102
 go_wp2_with fail
 obtain⟨g,hg⟩:∃ g,g=w.heap.size:=⟨_,rfl⟩
 rw[<-hg] at K0 K1
 rw[<-hg]
 clear r0 m0 r1 m1 hg
 refine C1.out.mono ?_
 rintro e w1 ⟨rfl,hx⟩
 have he:=He.out.next hx
 have k0:=K0.out.ext hx;have k1:=K1.out.ext hx
 clear hx K0 K1
 obtain⟨r0,m0⟩:=k0.rules
 obtain⟨r1,m1⟩:=k1.rules
 go_wp2_with fail
 refine(C2.out _ he).mono ?_
 rintro e w2 ⟨rfl,hx⟩
 replace he:=he.next hx
 clear r0 m0 r1 m1
 replace k0:=k0.ext hx;replace k1:=k1.ext hx
 clear hx
 obtain⟨r0,m0⟩:=k0.rules
 obtain⟨r1,m1⟩:=k1.rules
 go_wp2_with fail
 go_ret
 exact⟨Qam E.out.symm,he⟩
set_option maxHeartbeats 4000000
theorem Qda(b:Qad)(A0:Option Addr)(c0:Nat)(A1:Option Addr)(c1:Nat)(A2:Option Addr)(c2:Nat)(A3:Option Addr)(c3:Nat)(A4:Option Addr)(c4:Nat)(w:World)
 (s0:SlF AnyB Qaf.cells 5 w A0 b.log.entries c0) (s1:SlF AnyB Qab.cells 3 w A1 b.receipts c1) (s2:SlF AnyB Qak.cells 5 w A2 b.heads c2) (s3:SlF AnyB sone 1 w A3 b.sealed.leaves.peaks c3) (s4:SlF AnyB sone 1 w A4 b.sealed.taken.peaks c4) (ok0:∀ x∈b.log.entries,x.Ok) (ok1:∀ x∈b.receipts,x.Ok) (l3:b.sealed.leaves.peaks.length<=1048576) (l4:b.sealed.taken.peaks.length<=1048576) :
 Calls Tryz.prog 45 #[.agg (brkV b A0 c0 A1 c1 A2 c2 A3 c3 A4 c4).toArray] w fun e w'=>e=.returned (.bool (Qar b))/\Ext w w':=by
 have K0:=hU (Blk.new w 37 (brkV b A0 c0 A1 c1 A2 c2 A3 c3 A4 c4).toArray)
 have He:=hU (Ext.new (Below.refl w.heap.size w) (.cells (brkV b A0 c0 A1 c1 A2 c2 A3 c3 A4 c4).toArray 37))
 have BC:BrkC (w.alloc (.cells (brkV b A0 c0 A1 c1 A2 c2 A3 c3 A4 c4).toArray 37)) w.heap.size b A0 c0 A1 c1 A2 c2:=⟨K0.out.lt,K0.out.cell 0,K0.out.cell 1,K0.out.cell 2,K0.out.cell 3⟩
 have PF:=hU (Qlz w.heap.size b A0 c0 A1 c1 A2 c2 _ BC (s0.ext He.out) (s1.ext He.out) (s2.ext He.out) ok0 ok1)
 have S3:=hU s3;have S4:=hU s4
 have F:=hU (Qqw b)
 clear BC s0 s1 s2 s3 s4
 obtain⟨cs,hcs⟩:∃ cs,cs=brkV b A0 c0 A1 c1 A2 c2 A3 c3 A4 c4:=⟨_,rfl⟩
 have hl:cs.length=13:=by rw[hcs];rfl
 rw[<-hcs] at K0 He PF
 rw[<-hcs]
 have HCS:=hU hcs;have HL:=hU hl
 clear hcs hl
 go_enter Tryz.func45,Tryz.ntmps45
 go_wp2_with fail
 obtain⟨g,hg⟩:∃ g,g=w.heap.size:=⟨_,rfl⟩
 rw[<-hg] at PF K0
 rw[<-hg]
 have Hg:=hU hg
 clear hg
 generalize w.alloc (.cells cs.toArray 37)=w1 at *
 refine PF.out.mono ?_
 rintro e w2 ⟨h1,h⟩
 have k0:=K0.out.ext h1
 have he:=He.out.next h1
 rcases h with⟨hb,rfl⟩|⟨hb,v1,v2,rfl,r1,r2,ap⟩
 · have E:=hU (show Qar b=false by rw[F.out,hb];rfl)
   clear hb h1 K0 He
   simp only[Qhu,hz]
   go_wp2_with fail
   go_ret
   exact⟨Qam E.out.symm,he.new _⟩
 · obtain⟨a1,d1,hf1,_,rd1⟩:=r1.reads
   obtain⟨a2,d2,hf2,_,rd2⟩:=r2.reads
   obtain⟨S,hS⟩:∃ S,S=Qbx b.width (Qa8 b.width b.log.entries) (Qbp b.width b.receipts) (Qaw b.heads):=⟨_,rfl⟩
   have hSh:S.head=Qaw b.heads:=by rw[hS];rfl
   rw[<-hS] at r1 r2 rd1 rd2 hf1 hf2
   rw[<-hS,<-hSh,hf1,hf2]
   have hl1:S.leaves.peaks.length<=1048576:=by rw[hS];exact(Qrf hb).1
   have hl2:S.taken.peaks.length<=1048576:=by rw[hS];exact(Qrf hb).2
   have E:=hU (show Qar b=Qf9 S b.sealed by rw[F.out,hb,hS];rfl)
   have KB:=hU k0;have HE:=hU he;have RD1:=hU rd1;have RD2:=hU rd2
   simp only[Qb1]
   clear hS hSh hb r1 r2 ap hf1 hf2 rd1 rd2 k0 he h1 K0 He PF
   go_upto_region 2 with fail
   have KX:=Blk.new w2 35 #[.int .i64 S.leaves.size,.slice a1 S.leaves.peaks.length d1,.int .i64 S.taken.size,.slice a2 S.taken.peaks.length d2,.int .i64 S.head.number,.int .i64 S.head.size,.string S.head.root,.int .i64 S.head.taken,.string S.head.takenRoot]
   have hx:=Ext.new (Below.refl w2.heap.size w2) (.cells #[.int .i64 S.leaves.size,.slice a1 S.leaves.peaks.length d1,.int .i64 S.taken.size,.slice a2 S.taken.peaks.length d2,.int .i64 S.head.number,.int .i64 S.head.size,.string S.head.root,.int .i64 S.head.taken,.string S.head.takenRoot] 35)
   replace KB:=hU (KB.out.ext hx);replace HE:=hU (HE.out.next hx);replace RD1:=hU (Qbb.ext RD1.out hx);replace RD2:=hU (Qbb.ext RD2.out hx)
   obtain⟨q,hq⟩:∃ q,q=w2.heap.size:=⟨_,rfl⟩
   rw[<-hq] at KX
   rw[<-hq]
   clear hq hx
   generalize w2.alloc (.cells #[.int .i64 S.leaves.size,.slice a1 S.leaves.peaks.length d1,.int .i64 S.taken.size,.slice a2 S.taken.peaks.length d2,.int .i64 S.head.number,.int .i64 S.head.size,.string S.head.root,.int .i64 S.head.taken,.string S.head.takenRoot] 35)=w3 at *
   obtain⟨rx,fx⟩:=KX.rules
   have kb:=KB.out
   rw[HCS.out] at kb
   have y0:=kb.cell 4
   have y1:=kb.cell 5
   have y2:=kb.cell 6
   have y3:=kb.cell 7
   have y4:=kb.cell 8
   have y5:=kb.cell 9
   have y6:=kb.cell 10
   have y7:=kb.cell 11
   have y8:=kb.cell 12
   replace y0:w3.cell? ⟨g,4,none⟩=some (.int .i64 b.sealed.leaves.size):=y0
   replace y1:w3.cell? ⟨g,5,none⟩=some (.slice A3 b.sealed.leaves.peaks.length c3):=y1
   replace y2:w3.cell? ⟨g,6,none⟩=some (.int .i64 b.sealed.taken.size):=y2
   replace y3:w3.cell? ⟨g,7,none⟩=some (.slice A4 b.sealed.taken.peaks.length c4):=y3
   replace y4:w3.cell? ⟨g,8,none⟩=some (.int .i64 b.sealed.head.number):=y4
   replace y5:w3.cell? ⟨g,9,none⟩=some (.int .i64 b.sealed.head.size):=y5
   replace y6:w3.cell? ⟨g,10,none⟩=some (.string b.sealed.head.root):=y6
   replace y7:w3.cell? ⟨g,11,none⟩=some (.int .i64 b.sealed.head.taken):=y7
   replace y8:w3.cell? ⟨g,12,none⟩=some (.string b.sealed.head.takenRoot):=y8
   have C:=hU (Qrh a1 a2 A3 A4 d1 d2 c3 c4 S b.sealed w3 RD1.out RD2.out (S3.out.ext HE.out).reads (S4.out.ext HE.out).reads hl1 hl2 l3 l4)
   simp only[Qdw] at C
   clear kb
   go_wp2_with fail
   refine C.out.mono ?_
   rintro e w4 ⟨rfl,h1⟩
   have he:=HE.out.next h1
   rw[<-E.out]
   clear h1 rx fx y0 y1 y2 y3 y4 y5 y6 y7 y8
   go_wp2_with fail
   go_ret
   exact⟨rfl,he⟩
set_option maxHeartbeats 8000000
def Qcw (b:Qad):Nat:=if Qar b then Qev b else 1
def snB (b:Qad):Qad:=if Qcw b=0 then slB b else noB
def snW (b:Qad):List Qbs:=if Qcw b=0 then[Qcs b 1 (Qa4 b.width (Qb4 b))] else[]
theorem sn_bad{b:Qad}{k:Nat}(h:Qcw b=k)(h0:k≠0):snB b=noB/\snW b=[]:=by
 have:¬ Qcw b=0:=by omega
 exact⟨by rw[snB,if_neg this],by rw[snW,if_neg this]⟩
theorem Qjp{b:Qad}(h:Qcw b=0):snB b=slB b/\snW b=[Qcs b 1 (Qa4 b.width (Qb4 b))]:=⟨by rw[snB,if_pos h],by rw[snW,if_pos h]⟩
theorem Qtz{b:Qad}{k:Nat}{w w':World}{e:Ending}{vw:Value}(h:Qcw b=k)(h0:k≠0)(he:e=.returned (.tuple #[.agg #[.int .i64 0,.slice none 0 0,.slice none 0 0,.slice none 0 0,.int .i64 0,.slice none 0 0,.int .i64 0,.slice none 0 0,.int .i64 0,.int .i64 0,.string ⟨#[]⟩,.int .i64 0,.string ⟨#[]⟩],vw,.int .i64 (k:Int)]))(ho:w'.ownsRow w.heap.size 50 3 vw 0 [])(hx:Ext w w'):Qol (snB b) (snW b) (Qcw b) w e w':=by
 rw[(sn_bad h h0).1,(sn_bad h h0).2,h];exact Qol.bad he ho hx
theorem Qnj(b:Qad)(A0:Option Addr)(a0:Nat)(A1:Option Addr)(a1:Nat)(A2:Option Addr)(a2:Nat)(A3:Option Addr)(a3:Nat)(A4:Option Addr)(a4:Nat)(w:World)(s:BArg AnyB w b A0 a0 A1 a1 A2 a2 A3 a3 A4 a4)(ok0:∀ x∈b.log.entries,x.Ok)(ok1:∀ x∈b.receipts,x.Ok)(hz:BSz b) :
 Calls Tryz.prog 44 #[.agg (brkV b A0 a0 A1 a1 A2 a2 A3 a3 A4 a4).toArray] w (Qol (snB b) (snW b) (Qcw b) w):=by
 have S0:=hU s;have O0:=hU ok0;have O1:=hU ok1;have HZ:=hU hz
 have BOK:=hU (fun(W:World) (hW:Ext w W)=>Qda b A0 a0 A1 a1 A2 a2 A3 a3 A4 a4 W (s.ext hW).e (s.ext hW).r (s.ext hW).h (s.ext hW).u (s.ext hW).v ok0 ok1 hz.u hz.v)
 have CB:Hid (∀(W:World) (hW:Ext w W),Calls Tryz.prog 98 #[.agg (brkV b A0 a0 A1 a1 A2 a2 A3 a3 A4 a4).toArray] W fun e w'=>∃ V0 v0 V1 v1 V2 v2 V3 v3 V4 v4,e=.returned (.agg (brkV b V0 v0 V1 v1 V2 v2 V3 v3 V4 v4).toArray)/\Qb9 W.heap.size w' b (.slice V0 b.log.entries.length v0) (.slice V1 b.receipts.length v1) (.slice V2 b.heads.length v2) (.slice V3 b.sealed.leaves.peaks.length v3) (.slice V4 b.sealed.taken.peaks.length v4)/\(∀ x,(Value.slice V3 b.sealed.leaves.peaks.length v3).ownBlock=some x->(Value.slice V4 b.sealed.taken.peaks.length v4).ownBlock≠some x)/\Ext W w'):=hU (fun W hW=>Qgx b A0 a0 A1 a1 A2 a2 A3 a3 A4 a4 W (s.ext hW) hz)
 obtain⟨cs,hcs⟩:∃ cs,cs=(brkV b A0 a0 A1 a1 A2 a2 A3 a3 A4 a4):=⟨_,rfl⟩
 have HL13:=hU (show cs.length=13 by rw[hcs];rfl)
 rw[<-hcs] at BOK CB
 rw[<-hcs]
 clear s ok0 ok1 hz hcs
 obtain⟨B1,B3,he⟩:=Qcq w cs.toArray #[.int .i64 0,.slice none 0 0,.slice none 0 0,.slice none 0 0,.int .i64 0,.slice none 0 0,.int .i64 0,.slice none 0 0,.int .i64 0,.int .i64 0,.string ⟨#[]⟩,.int .i64 0,.string ⟨#[]⟩] 37 37
 obtain⟨g1,hg1⟩:∃ g1,g1=w.heap.size:=⟨_,rfl⟩
 obtain⟨g3,hg3⟩:∃ g3,g3=w.heap.size+1:=⟨_,rfl⟩
 go_enter Tryz.func44,Tryz.ntmps44
 go_upto_region 1 with fail
 obtain⟨w3,hw3⟩:∃ w3,w3=(w.alloc (.cells cs.toArray 37)).alloc (.cells #[.int .i64 0,.slice none 0 0,.slice none 0 0,.slice none 0 0,.int .i64 0,.slice none 0 0,.int .i64 0,.slice none 0 0,.int .i64 0,.int .i64 0,.string ⟨#[]⟩,.int .i64 0,.string ⟨#[]⟩] 37):=⟨_,rfl⟩
 rw[<-hw3] at B1 B3 he
 rw[<-hw3]
 rw[<-hg3] at B3
 rw[<-hg1] at B1
 rw[<-hg3,<-hg1]
 have h13:g1<g3:=by omega
 have hw:w.heap.size<=g3:=by omega
 clear hw3 hg1 hg3
 have RX:=hU (Blk.range B1)
 go_wp2_with (refine wpList_load_mid rfl 37 _ rfl g1 0 rfl cs _ RX.out Tryz.underlying37 rfl (by rw[HL13.out];kernel_rfl) ?_)
 refine(BOK.out _ he).mono ?_
 rintro e w4 ⟨rfl,h1⟩
 replace he:=he.next h1;replace B1:=B1.ext h1;replace B3:=B3.ext h1
 clear h1 RX BOK
 cases pb:Qar b
 · have E:=hU (show Qcw b=1 by rw[Qcw,pb];rfl)
   have T4:=hU (B3.there 0 13 (by simp))
   obtain⟨wz,hwz,hz,hx⟩:∃ wz,wz=w4.setCells g3 0 [.int .i64 0,.slice none 0 0,.slice none 0 0,.slice none 0 0,.int .i64 0,.slice none 0 0,.int .i64 0,.slice none 0 0,.int .i64 0,.int .i64 0,.string ⟨#[]⟩,.int .i64 0,.string ⟨#[]⟩]/\Blk wz g3 37 #[.int .i64 0,.slice none 0 0,.slice none 0 0,.slice none 0 0,.int .i64 0,.slice none 0 0,.int .i64 0,.slice none 0 0,.int .i64 0,.int .i64 0,.string ⟨#[]⟩,.int .i64 0,.string ⟨#[]⟩]/\Ext w wz:=⟨_,rfl,Qas B3 [.int .i64 0,.slice none 0 0,.slice none 0 0,.slice none 0 0,.int .i64 0,.slice none 0 0,.int .i64 0,.slice none 0 0,.int .i64 0,.int .i64 0,.string ⟨#[]⟩,.int .i64 0,.string ⟨#[]⟩] rfl,Qaa hw [.int .i64 0,.slice none 0 0,.slice none 0 0,.slice none 0 0,.int .i64 0,.slice none 0 0,.int .i64 0,.slice none 0 0,.int .i64 0,.int .i64 0,.string ⟨#[]⟩,.int .i64 0,.string ⟨#[]⟩] 0 _ he⟩
   have HW:=hU hwz;have Z4:=hU hz;have X4:=hU hx
   clear hwz hz hx B3 he
   go_wp2_with (refine Qac rfl 37 _ _ rfl rfl g3 0 [.int .i64 0,.slice none 0 0,.slice none 0 0,.slice none 0 0,.int .i64 0,.slice none 0 0,.int .i64 0,.slice none 0 0,.int .i64 0,.int .i64 0,.string ⟨#[]⟩,.int .i64 0,.string ⟨#[]⟩] rfl rfl T4.out (by kernel_rfl) (by rfl) ?_;rw[<-HW.out])
   exact Qd6 rfl rfl Z4.out Tryz.underlying37 rfl (by kernel_rfl) rfl (Qtz E.out (by decide) rfl (World.ownsRow_nil _ _ _ _) X4.out)
 have HPB:=hU pb
 have RX:=hU (Blk.range B1)
 go_wp2_with (refine wpList_load_mid rfl 37 _ rfl g1 0 rfl cs _ RX.out Tryz.underlying37 rfl (by rw[HL13.out];kernel_rfl) ?_)
 refine(CB.out _ he).mono ?_
 rintro e w5 ⟨V0,v0,V1,v1,V2,v2,V3,v3,V4,v4,rfl,rows,ap,h1⟩
 have hK:=B3.lt
 obtain⟨K,hKe⟩:∃ K,K=w4.heap.size:=⟨_,rfl⟩
 rw[<-hKe] at rows hK
 have h45:=h1.size
 rw[<-hKe] at h45
 replace he:=he.next h1;replace B1:=B1.ext h1;replace B3:=B3.ext h1
 have AP:=hU ap
 clear h1 RX CB ap hKe
 obtain⟨ns,hns⟩:∃ ns,ns=brkV b V0 v0 V1 v1 V2 v2 V3 v3 V4 v4:=⟨_,rfl⟩
 have HN13:=hU (show ns.length=13 by rw[hns];rfl)
 have HN1:=hU (show ns.all (·.oneCell')=true by rw[hns];rfl)
 rw[<-hns]
 have HNS:=hU hns
 clear hns
 have KZ:=Blk.new w5 37 #[.int .i64 0,.slice none 0 0,.slice none 0 0,.slice none 0 0,.int .i64 0,.slice none 0 0,.int .i64 0,.slice none 0 0,.int .i64 0,.int .i64 0,.string ⟨#[]⟩,.int .i64 0,.string ⟨#[]⟩]
 obtain⟨w6,hw6,B7,hx⟩:∃ w6,w6=(w5.alloc (.cells #[.int .i64 0,.slice none 0 0,.slice none 0 0,.slice none 0 0,.int .i64 0,.slice none 0 0,.int .i64 0,.slice none 0 0,.int .i64 0,.int .i64 0,.string ⟨#[]⟩,.int .i64 0,.string ⟨#[]⟩] 37)).setCells w5.heap.size 0 ns/\Blk w6 w5.heap.size 37 ns.toArray/\Ext w5 w6:=⟨_,rfl,Qas KZ ns (by rw[HN13.out];rfl),Qaa (W:=w5) (Nat.le_refl _) ns 0 _ (Ext.new (Below.refl _ _) _)⟩
 have T4:=hU (show World.there (w5.alloc (.cells #[.int .i64 0,.slice none 0 0,.slice none 0 0,.slice none 0 0,.int .i64 0,.slice none 0 0,.int .i64 0,.slice none 0 0,.int .i64 0,.int .i64 0,.string ⟨#[]⟩,.int .i64 0,.string ⟨#[]⟩] 37)) w5.heap.size 0 ns.length by rw[HN13.out];exact KZ.there 0 13 (by simp));have HW:=hU hw6
 have hl6:=B7.lt
 replace he:=he.next hx;replace B1:=B1.ext hx;replace B3:=B3.ext hx;replace rows:=rows.ext hx
 have RW:=hU rows
 clear hw6 hx KZ rows
 go_upto_region 4 with(refine Qac rfl 37 _ _ rfl rfl w5.heap.size 0 ns rfl rfl T4.out (by rw[HN13.out];kernel_rfl) HN1.out ?_;rw[<-HW.out])
 obtain⟨g7,hg7⟩:∃ g7,g7=w5.heap.size:=⟨_,rfl⟩
 rw[<-hg7] at B7 hl6 h45
 rw[<-hg7]
 clear T4 HW hg7 HN1
 have TK:=hU (seal_any b g7 V0 v0 V1 v1 V2 v2 V3 v3 V4 v4 K w6 (by have h:=B7;rw[HNS.out] at h;exact h) RW.out AP.out ⟨O0.out,O1.out,(Qbh HPB.out).2.2.2.2.2.1,HZ.out⟩ HPB.out h45 (by omega))
 go_wp2_with fail
 refine TK.out.mono ?_
 rintro e w7 ⟨vw,rfl,hh⟩
 obtain⟨cc,hcc⟩:∃ cc,cc=Qev b:=⟨_,rfl⟩
 have E:=hU (show Qcw b=cc by rw[Qcw,HPB.out,hcc];rfl)
 rw[<-hcc] at hh
 rw[<-hcc]
 clear hcc TK
 rcases hh with⟨hne,h1⟩|⟨h0,vh,u1,u2,B8,rows,ap2,ow,hbl⟩
 · have z0:((cc:Int)==0)=false:=beq_false_of_ne (by omega)
   have HNE:=hU hne
   replace he:=he.next h1;replace B3:=B3.ext h1
   clear h1 B1 B7 hne
   have T4:=hU (B3.there 0 13 (by simp))
   obtain⟨wz,hwz,hz,hx⟩:∃ wz,wz=w7.setCells g3 0 [.int .i64 0,.slice none 0 0,.slice none 0 0,.slice none 0 0,.int .i64 0,.slice none 0 0,.int .i64 0,.slice none 0 0,.int .i64 0,.int .i64 0,.string ⟨#[]⟩,.int .i64 0,.string ⟨#[]⟩]/\Blk wz g3 37 #[.int .i64 0,.slice none 0 0,.slice none 0 0,.slice none 0 0,.int .i64 0,.slice none 0 0,.int .i64 0,.slice none 0 0,.int .i64 0,.int .i64 0,.string ⟨#[]⟩,.int .i64 0,.string ⟨#[]⟩]/\Ext w wz:=⟨_,rfl,Qas B3 [.int .i64 0,.slice none 0 0,.slice none 0 0,.slice none 0 0,.int .i64 0,.slice none 0 0,.int .i64 0,.slice none 0 0,.int .i64 0,.int .i64 0,.string ⟨#[]⟩,.int .i64 0,.string ⟨#[]⟩] rfl,Qaa hw [.int .i64 0,.slice none 0 0,.slice none 0 0,.slice none 0 0,.int .i64 0,.slice none 0 0,.int .i64 0,.slice none 0 0,.int .i64 0,.int .i64 0,.string ⟨#[]⟩,.int .i64 0,.string ⟨#[]⟩] 0 _ he⟩
   have HW:=hU hwz;have Z4:=hU hz;have X4:=hU hx
   clear hwz hz hx B3 he
   go_wp2_with (refine Qac rfl 37 _ _ rfl rfl g3 0 [.int .i64 0,.slice none 0 0,.slice none 0 0,.slice none 0 0,.int .i64 0,.slice none 0 0,.int .i64 0,.slice none 0 0,.int .i64 0,.int .i64 0,.string ⟨#[]⟩,.int .i64 0,.string ⟨#[]⟩] rfl rfl T4.out (by kernel_rfl) (by rfl) ?_;rw[<-HW.out])
   exact Qd6 rfl rfl Z4.out Tryz.underlying37 rfl (by kernel_rfl) rfl (Qtz E.out HNE.out rfl (World.ownsRow_nil _ _ _ _) X4.out)
 · subst h0
   replace he:=Qjz he hbl (by omega)
   replace B3:=Qoc hbl B3 (by omega)
   obtain⟨ms,hms⟩:∃ ms,ms=Qe8 (slB b) (.slice V0 b.log.entries.length v0) (.slice V1 b.receipts.length v1) vh u1 u2:=⟨_,rfl⟩
   obtain⟨VH,vhc,rfl,_⟩:=Qae rows.h
   obtain⟨VU,vuc,rfl,_⟩:=Qae rows.p
   obtain⟨VV,vvc,rfl,_⟩:=Qae rows.q
   have AP2:=hU ap2
   have HM13:=hU (show ms.length=13 by rw[hms];rfl)
   have HM1:=hU (show ms.all (·.oneCell')=true by rw[hms];rfl)
   rw[<-hms] at B8
   have HMS:=hU hms
   have RX:=hU (Blk.range B8)
   obtain⟨wz,hwz,hz,hx⟩:∃ wz,wz=w7.setCells g3 0 ms/\Blk wz g3 37 ms.toArray/\Ext w wz:=⟨_,rfl,Qas B3 ms (by rw[HM13.out];rfl),Qaa hw ms 0 _ he⟩
   have HW:=hU hwz;have T4:=hU (show w7.there g3 0 ms.length by rw[HM13.out];exact B3.there 0 13 (by simp));have Z4:=hU hz;have X4:=hU hx
   have RZ:Hid (Qb9 w.heap.size wz (slB b) (.slice V0 b.log.entries.length v0) (.slice V1 b.receipts.length v1) (.slice VH (slB b).heads.length vhc) (.slice VU (slB b).sealed.leaves.peaks.length vuc) (.slice VV (slB b).sealed.taken.peaks.length vvc)):=hU (by rw[hwz];exact⟨Qa2 rows.e hK (by omega) ms 0,Qa2 rows.r hK (by omega) ms 0,Qa2 rows.h hK (by omega) ms 0,Qa2 rows.p hK (by omega) ms 0,Qa2 rows.q hK (by omega) ms 0⟩)
   have OZ:Hid (wz.ownsRow w.heap.size 50 3 vw 1 (Qcs b 1 (Qa4 b.width (Qb4 b))).cells):=hU (by rw[hwz];exact Qa2 ow hK (by omega) ms 0)
   clear hwz hz hx rows ap2 ow hbl hms B1 B3 B7 B8 he
   go_wp2_with (first|(refine wpList_load_mid rfl 37 _ rfl g7 0 rfl ms _ RX.out Tryz.underlying37 rfl (by rw[HM13.out];kernel_rfl) ?_)|(refine Qac rfl 37 _ _ rfl rfl g3 0 ms rfl rfl T4.out (by rw[HM13.out];kernel_rfl) HM1.out ?_;rw[<-HW.out]))
   refine Qd6 rfl rfl Z4.out Tryz.underlying37 rfl (by rw[List.size_toArray,HM13.out];kernel_rfl) rfl ?_
   rw[(Qjp E.out).1,(Qjp E.out).2,E.out]
   exact⟨_,_,_,_,_,vw,by rw[HMS.out];rfl,RZ.out,AP2.out,by simpa using OZ.out,X4.out⟩
theorem Qs8(b:Qad)(f:Nat)(hf:f<3)(A0:Option Addr)(a0:Nat)(A1:Option Addr)(a1:Nat)(A2:Option Addr)(a2:Nat)(A3:Option Addr)(a3:Nat)(A4:Option Addr)(a4:Nat)(w:World)(s:BArg AnyB w b A0 a0 A1 a1 A2 a2 A3 a3 A4 a4)(hk:TxOk b)(hn:(Qay b f).length<=1048576)(hs:∀ t∈Qay b f,t.size<=maxLen) :
 Calls Tryz.prog 228 #[.agg (brkV b A0 a0 A1 a1 A2 a2 A3 a3 A4 a4).toArray,.int .i64 (f:Int)] w fun e w'=>e=.returned (.string (Qai (Qay b f)))/\Ext w w':=by
 obtain⟨i0,hi,hz0,hz1,hz2⟩:=info_parts infS
 have B0:=(Blk.new w 37 (brkV b A0 a0 A1 a1 A2 a2 A3 a3 A4 a4).toArray)
 have he:=(Ext.new (Below.refl w.heap.size w) (.cells (brkV b A0 a0 A1 a1 A2 a2 A3 a3 A4 a4).toArray 37))
 have S0:=hU s;have HK:=hU hk;have HN:=hU hn;have HS:=hU hs
 obtain⟨n0,hn0⟩:∃ n0,n0=b.log.entries.length:=⟨_,rfl⟩
 obtain⟨n1,hn1⟩:∃ n1,n1=b.heads.length:=⟨_,rfl⟩
 obtain⟨n2,hn2⟩:∃ n2,n2=b.receipts.length:=⟨_,rfl⟩
 obtain⟨cs,hcs⟩:∃ cs,cs=(brkV b A0 a0 A1 a1 A2 a2 A3 a3 A4 a4):=⟨_,rfl⟩
 have BH:∀(W:World) (g:Nat),Blk W g 37 cs.toArray->W.cell? ⟨g,0,none⟩=some (.int .i64 b.width)/\W.cell? ⟨g,1,none⟩=some (.slice A0 n0 a0)/\W.cell? ⟨g,2,none⟩=some (.slice A1 n2 a1)/\W.cell? ⟨g,3,none⟩=some (.slice A2 n1 a2):=fun W g h=>by
  rw[hcs] at h
  rw[hn0,hn1,hn2]
  exact⟨h.cell 0,h.cell 1,h.cell 2,h.cell 3⟩
 have BH:=hU BH
 have l0:=hk.n.e;have l1:=hk.n.h;have l2:=hk.n.r;have lh0:=hk.h
 rw[<-hn0] at l0
 rw[<-hn1] at l1 lh0
 rw[<-hn2] at l2
 have N0:=hU hn0;have N1:=hU hn1;have N2:=hU hn2
 rw[<-hcs] at B0 he
 rw[<-hcs]
 clear s hk hn hs hn0 hn1 hn2 hcs
 obtain⟨T0,hT0⟩:∃ T0,T0=(if f=0 then Qct b else[]):=⟨_,rfl⟩
 obtain⟨T1,hT1⟩:∃ T1,T1=(if f=1 then Qcz b else[]):=⟨_,rfl⟩
 obtain⟨T2,hT2⟩:∃ T2,T2=(if f=2 then Qde b else[]):=⟨_,rfl⟩
 have hFT:Qay b f=T0++T1++T2:=by rw[hT0,hT1,hT2];rfl
 have HT0:=hU hT0;have HT1:=hU hT1;have HT2:=hU hT2;have HFT:=hU hFT
 have t0:T0.length<=1048576:=by have h:=HN.out;rw[hFT] at h;simp only[List.length_append] at h;omega
 have t1:T0.length+T1.length<=1048576:=by have h:=HN.out;rw[hFT] at h;simp only[List.length_append] at h;omega
 have t2:T0.length+T1.length+T2.length<=1048576:=by have h:=HN.out;rw[hFT] at h;simp only[List.length_append] at h;omega
 clear hT0 hT1 hT2 hFT
 obtain⟨x0,x1,x2,x3⟩:=BH.out _ _ B0
 go_enter Tryz.func228,Tryz.ntmps228
 go_upto_region 1 with fail
 obtain⟨g,hg⟩:∃ g,g=w.heap.size:=⟨_,rfl⟩
 rw[<-hg] at B0
 rw[<-hg]
 have hgw:w.heap.size<=g:=by omega
 clear hg x0 x1 x2 x3
 generalize w.alloc (.cells cs.toArray 37)=w1 at *
 have OE:=Qbd w1 9 1
 have hg1:=B0.lt
 replace OE:=Qaj (B':=g+1) OE (by omega)
 have h2:=Ext.new (Below.refl w1.heap.size w1) (.cells #[] 9)
 have BX:=hU (B0.ext h2);have HE:=hU (he.next h2);have OX:=hU OE
 clear B0 he h2 OE
 go_wp2_with fail
 go_loopw [5,6] (fun v i wr=>∃(k m:Nat) (V:Option Addr) (cv:Nat),k<=T0.length/\m=k+0/\i=.int .i64 m/\v=.slice V (k) cv/\Blk wr g 37 cs.toArray/\wr.ownsRow (g+1) 9 1 (.slice V (k) cv) (k) ((T0.take k).flatMap sone)/\Ext w wr) (fun _ i _=>n0+1-(intOf i).toNat)
 case atStart=>exact⟨0,0,_,_,Nat.zero_le _,rfl,rfl,rfl,BX.out,by simpa using OX.out,HE.out⟩
 case round=>
  clear BX OX HE
  obtain⟨k,m,V,cv,hk,hm,rfl,rfl,bx,ko,he⟩:=hrel
  have HM:=hU hm
  have NX:=hU (show f=0->T0.length+0=n0 from fun e=>by
   rw[HT0.out,if_pos e];rw[Qct,List.length_map];have h1:=N0.out;omega)
  have NF:=hU (show ¬ f=0->T0.length=0 from fun e=>by rw[HT0.out,if_neg e];rfl)
  obtain⟨x0,x1,x2,x3⟩:=BH.out _ _ bx
  by_cases hlt:k<T0.length
  case neg=>
   obtain rfl:k=T0.length:=by omega
   rw[List.take_length] at ko
   have HQ:=hU (show ¬ m<n0\/¬ f=0 from by
    by_cases e:f=0
    · exact .inl (by have h1:=NX.out e;omega)
    · exact .inr e)
   clear hm hlt hk
   go_upto_region 3 with fail
   go_cut [27] from 18 to 27 (fun vx wx=>vx=.bool false/\wx=wr)
   case first=>
    by_cases hlt:m<n0
    · have ff:((f:Int)==0)=false:=beq_false_of_ne (by have h1:=HQ.out;omega)
      go_wp2_with fail
      go_meet
      case rel=>exact⟨rfl,rfl⟩
    · go_wp2_with fail
      go_meet
      case rel=>exact⟨rfl,rfl⟩
   case rest=>
   obtain⟨rfl,hwx⟩:=hcut
   subst hwx
   have BX:=hU bx;have HE:=hU he
   have OX:Hid (_):=hU ko
   clear bx ko he HQ NX NF HM x0 x1 x2 x3
   go_wp2_with fail
   go_loopw [5,9] (fun v i wr=>∃(k m:Nat) (V:Option Addr) (cv:Nat),k<=T1.length/\m=k+1/\i=.int .i64 m/\v=.slice V (T0.length+k) cv/\Blk wr g 37 cs.toArray/\wr.ownsRow (g+1) 9 1 (.slice V (T0.length+k) cv) (T0.length+k) ((T0++T1.take k).flatMap sone)/\Ext w wr) (fun _ i _=>n1+1-(intOf i).toNat)
   case atStart=>exact⟨0,1,_,_,Nat.zero_le _,rfl,rfl,rfl,BX.out,by simpa using OX.out,HE.out⟩
   case round=>
    clear BX OX HE
    obtain⟨k,m,V,cv,hk,hm,rfl,rfl,bx,ko,he⟩:=hrel
    have HM:=hU hm
    have NX:=hU (show f=1->T1.length+1=n1 from fun e=>by
     rw[HT1.out,if_pos e];rw[Qcz,List.length_map,List.length_drop];have h1:=N1.out;omega)
    have NF:=hU (show ¬ f=1->T1.length=0 from fun e=>by rw[HT1.out,if_neg e];rfl)
    obtain⟨x0,x1,x2,x3⟩:=BH.out _ _ bx
    by_cases hlt:k<T1.length
    case neg=>
     obtain rfl:k=T1.length:=by omega
     rw[List.take_length] at ko
     have HQ:=hU (show ¬ m<n1\/¬ f=1 from by
      by_cases e:f=1
      · exact .inl (by have h1:=NX.out e;omega)
      · exact .inr e)
     clear hm hlt hk
     go_upto_region 8 with fail
     go_cut [52] from 44 to 52 (fun vx wx=>vx=.bool false/\wx=wr)
     case first=>
      by_cases hlt:m<n1
      · have ff:((f:Int)==1)=false:=beq_false_of_ne (by have h1:=HQ.out;omega)
        go_wp2_with fail
        go_meet
        case rel=>exact⟨rfl,rfl⟩
      · go_wp2_with fail
        go_meet
        case rel=>exact⟨rfl,rfl⟩
     case rest=>
     obtain⟨rfl,hwx⟩:=hcut
     subst hwx
     have BX:=hU bx;have HE:=hU he
     have OX:Hid (_):=hU ko
     clear bx ko he HQ NX NF HM x0 x1 x2 x3
     go_wp2_with fail
     go_loopw [5,12] (fun v i wr=>∃(k m:Nat) (V:Option Addr) (cv:Nat),k<=T2.length/\m=k+0/\i=.int .i64 m/\v=.slice V (T0.length+T1.length+k) cv/\Blk wr g 37 cs.toArray/\wr.ownsRow (g+1) 9 1 (.slice V (T0.length+T1.length+k) cv) (T0.length+T1.length+k) ((T0++T1++T2.take k).flatMap sone)/\Ext w wr) (fun _ i _=>n2+1-(intOf i).toNat)
     case atStart=>exact⟨0,0,_,_,Nat.zero_le _,rfl,rfl,rfl,BX.out,by simpa using OX.out,HE.out⟩
     case round=>
      clear BX OX HE
      obtain⟨k,m,V,cv,hk,hm,rfl,rfl,bx,ko,he⟩:=hrel
      have HM:=hU hm
      have NX:=hU (show f=2->T2.length+0=n2 from fun e=>by
       rw[HT2.out,if_pos e];rw[Qde,List.length_map];have h1:=N2.out;omega)
      have NF:=hU (show ¬ f=2->T2.length=0 from fun e=>by rw[HT2.out,if_neg e];rfl)
      obtain⟨x0,x1,x2,x3⟩:=BH.out _ _ bx
      by_cases hlt:k<T2.length
      case neg=>
       obtain rfl:k=T2.length:=by omega
       rw[List.take_length] at ko
       have HQ:=hU (show ¬ m<n2\/¬ f=2 from by
        by_cases e:f=2
        · exact .inl (by have h1:=NX.out e;omega)
        · exact .inr e)
       clear hm hlt hk
       go_upto_region 13 with fail
       go_cut [78] from 70 to 78 (fun vx wx=>vx=.bool false/\wx=wr)
       case first=>
        by_cases hlt:m<n2
        · have ff:((f:Int)==2)=false:=beq_false_of_ne (by have h1:=HQ.out;omega)
          go_wp2_with fail
          go_meet
          case rel=>exact⟨rfl,rfl⟩
        · go_wp2_with fail
          go_meet
          case rel=>exact⟨rfl,rfl⟩
       case rest=>
       obtain⟨rfl,hwx⟩:=hcut
       subst hwx
       have HR:=hU (Qb6 (show wc.ownsRow (g+1) 9 1 (.slice V (Qay b f).length cv) (Qay b f).length ((Qay b f).flatMap sone) by rw[HFT.out,List.length_append,List.length_append];exact ko)).reads
       have ELN:T0.length+T1.length+T2.length=(Qay b f).length:=by rw[HFT.out,List.length_append,List.length_append]
       have ELH:=hU ELN
       rw[ELN]
       have HE:=hU he
       clear ELN bx ko he x0 x1 x2 x3 HQ NX NF HM
       go_wp2_with fail
       refine(Qop V cv (Qay b f) _ HR.out HN.out HS.out).mono ?_
       rintro e w9 ⟨rfl,h1⟩
       have he:=HE.out.next h1
       clear h1
       go_wp2_with fail
       go_ret
       exact⟨rfl,he⟩
      have ef:f=2:=by
       by_cases e:f=2
       · exact e
       · have h1:=NF.out e;omega
      have ff:((f:Int)==2)=true:=beq_iff_eq.2 (by omega)
      have hm2:m<n2:=by have h1:=NX.out ef;omega
      have TE:=hU (show T2=Qde b by rw[HT2.out,if_pos ef])
      clear ef
      obtain⟨b_,off,rfl,hb_,hc⟩:=Qbb.at_ (S0.out.ext he).r.reads (k:=m) (by rw[<-N2.out];exact hm2)
      obtain⟨d,hd⟩:∃ d,d=b.receipts[m]'(by rw[<-N2.out];exact hm2):=⟨_,rfl⟩
      have hdl:b.receipts[m]?=some d:=by rw[hd];exact List.getElem?_eq_getElem _
      have HDO:=hU (HK.out.r d (List.mem_of_getElem? hdl))
      have HX:=hU (show T2[k]?=some (Qan d) by rw[TE.out,Qde,List.getElem?_map,show k=m by omega,hdl];rfl)
      obtain⟨d0,d1,d2⟩:=Qly hc hdl
      clear hc hd hdl hm
      go_wp2_with fail
      refine(Qc1 d _ HDO.out).mono ?_
      rintro e w2 ⟨rfl,h2⟩
      replace bx:=bx.ext h2;replace ko:=Qag ko h2;replace he:=he.next h2
      clear h2 d0 d1 d2 x0 x1 x2 x3
      obtain⟨x,hx⟩:∃ x,x=Qan d:=⟨_,rfl⟩
      rw[<-hx] at HX
      rw[<-hx]
      clear hx
      have hw1:=bx.lt
      have BQ:=hU bx;have KO:=hU ko;have HEQ:=hU he
      clear bx ko he
      go_wp2_with (at_builtin;refine Qap _ rfl _ _ 29 rfl (g+1) 9 i0 _ 1 16 Tryz.underlying29 hi hz0 hz1 hz2 rfl (by decide) _ _ _ rfl (KO.out.alloc _) ⟨w2.heap.size,0,none⟩ 1 1 [.string x] rfl rfl ?x12 ?x22 ?x32 ?x42 ?x52 ?_)
      case x12=>exact(Blk.new w2 9 #[.string x]).adds
      case x22=>intro u hu;simp at hu;subst hu;rfl
      case x32=>unfold maxLen;omega
      case x42=>omega
      case x52=>simp;omega
      intro v' w3 hown' hfrm hmv
      have h2:=Ext.new (Below.refl w2.heap.size w2) (.cells #[.string x] 9)
      obtain⟨V',cv',rfl,_⟩:=Qae hown'
      have L0:=hU KO.out.lt
      have bx2:=hU (hfrm.blk (BQ.out.ext h2) (fun e=>by have:=(L0.out _ e).1;omega))
      have he2:=hU (hfrm.toExt (HEQ.out.next h2) (fun y hy e=>by have:=(L0.out _ e).1;omega))
      obtain⟨hkl,hkd⟩:=List.getElem?_eq_some_iff.1 HX.out
      have e2:(T0++T1++T2.take k).flatMap sone++[.string x]=(T0++T1++T2.take (k+1)).flatMap sone:=by rw[List.take_succ_eq_append_getElem hkl,hkd];simp[sone,List.flatMap_append]
      have O2:=hU (show w3.ownsRow (g+1) 9 1 (.slice V' (T0.length+T1.length+k+1) cv') (T0.length+T1.length+k+1) ((T0++T1++T2.take (k+1)).flatMap sone) by rw[<-e2];simpa [List.flatMap_append,List.append_assoc] using hown')
      clear hown' hfrm hmv hkd e2 KO BQ HEQ h2 L0
      go_wp2_with fail
      go_roundw
      case rel=>exact⟨k+1,m+1,V',cv',by omega,by have:=HM.out;omega,by go_num,rfl,bx2.out,O2.out,he2.out⟩
      case measure=>simp[intOf];omega
    have ef:f=1:=by
     by_cases e:f=1
     · exact e
     · have h1:=NF.out e;omega
    have ff:((f:Int)==1)=true:=beq_iff_eq.2 (by omega)
    have hm2:m<n1:=by have h1:=NX.out ef;omega
    have TE:=hU (show T1=Qcz b by rw[HT1.out,if_pos ef])
    clear ef
    obtain⟨b_,off,rfl,hb_,hc⟩:=Qbb.at_ (S0.out.ext he).h.reads (k:=m) (by rw[<-N1.out];exact hm2)
    obtain⟨d,hd⟩:∃ d,d=b.heads[m]'(by rw[<-N1.out];exact hm2):=⟨_,rfl⟩
    have hdl:b.heads[m]?=some d:=by rw[hd];exact List.getElem?_eq_getElem _
    have HX:=hU (show T1[k]?=some (Qa4 b.width d) by rw[TE.out,Qcz,List.getElem?_map,List.getElem?_drop,show 1+k=m by omega,hdl];rfl)
    obtain⟨d0,d1,d2,d3,d4⟩:=hd_at hc hdl
    clear hc hd hdl hm
    go_upto_region 10 with fail
    refine wp_region_held_drew (S:=fun w'=>Ext wr w') (by kernel_rfl) (Below.refl _ _).drew (fun hH=>?_)
    have BQ:=hU bx
    have DQ:Hid (∀ w',Ext wr w'->w'.cell? ⟨b_,off+m*5,none⟩=some (.int .i64 d.number)/\w'.cell? ⟨b_,off+m*5+1,none⟩=some (.int .i64 d.size)/\w'.cell? ⟨b_,off+m*5+2,none⟩=some (.string d.root)/\w'.cell? ⟨b_,off+m*5+3,none⟩=some (.int .i64 d.taken)/\w'.cell? ⟨b_,off+m*5+4,none⟩=some (.string d.takenRoot)):=hU (fun w' hw=>⟨(hw.cell (p:=⟨b_,off+m*5,none⟩) hb_).trans d0,(hw.cell (p:=⟨b_,off+m*5+1,none⟩) hb_).trans d1,(hw.cell (p:=⟨b_,off+m*5+2,none⟩) hb_).trans d2,(hw.cell (p:=⟨b_,off+m*5+3,none⟩) hb_).trans d3,(hw.cell (p:=⟨b_,off+m*5+4,none⟩) hb_).trans d4⟩)
    clear d0 d1 d2 d3 d4 x0 x1 x2 x3 bx
    refine tk 0 (.pointer (some ⟨g,0,none⟩)) (some 56) hH ?_
    try simp only[zA]
    refine Qah 1 (.int .i64 b.width) (some 57) rfl rfl (by kernel_rfl) (Or.inl ⟨by rfl,?yf2⟩) hH ?rf2
    case yf2=>intro w' hS';obtain⟨y0,y1,y2,y3⟩:=BH.out _ _ (BQ.out.ext hS');obtain⟨d0,d1,d2,d3,d4⟩:=DQ.out _ hS';go_simp;try with_reducible rfl
    try simp only[zA]
    refine tk 2 (.pointer (some ⟨g,3,none⟩)) (some 58) hH ?_
    try simp only[zA]
    refine Qah 3 (.slice (some ⟨b_,off,none⟩) n1 a2) (some 59) rfl rfl (by kernel_rfl) (Or.inl ⟨by rfl,?yf4⟩) hH ?rf4
    case yf4=>intro w' hS';obtain⟨y0,y1,y2,y3⟩:=BH.out _ _ (BQ.out.ext hS');obtain⟨d0,d1,d2,d3,d4⟩:=DQ.out _ hS';go_simp;try with_reducible rfl
    try simp only[zA]
    refine Qah 4 (.int .i64 (m:Int)) (some 60) rfl rfl (by kernel_rfl) (Or.inl ⟨by rfl,?yf5⟩) hH ?rf5
    case yf5=>intro w' hS';obtain⟨y0,y1,y2,y3⟩:=BH.out _ _ (BQ.out.ext hS');obtain⟨d0,d1,d2,d3,d4⟩:=DQ.out _ hS';go_simp;try with_reducible rfl
    try simp only[zA]
    refine tk 5 (.pointer (some ⟨b_,off+m*5,none⟩)) (some 61) hH ?_
    try simp only[zA]
    refine Qah 6 (.agg #[.int .i64 d.number,.int .i64 d.size,.string d.root,.int .i64 d.taken,.string d.takenRoot]) (some 62) rfl rfl (by kernel_rfl) (Or.inl ⟨by rfl,?yf7⟩) hH ?rf7
    case yf7=>intro w' hS';obtain⟨y0,y1,y2,y3⟩:=BH.out _ _ (BQ.out.ext hS');obtain⟨d0,d1,d2,d3,d4⟩:=DQ.out _ hS';go_simp;try with_reducible rfl
    try simp only[zA]
    refine oneH 7 (oi:=_) (some 63) (by kernel_rfl) rfl rfl rfl (fun K' hK=>?_)
    refine⟨?_⟩
    rw[if_pos (by rfl)]
    go_simp
    refine(Qht b.width d _).mono ?_
    rintro e w2 ⟨rfl,h1⟩
    refine hK.out _ _ ⟨_,rfl⟩ (hH.next h1) (fun hH2=>?_)
    clear hK K' hH h1
    have hH:=hH2
    clear hH2
    try simp only[zB]
    refine Qah 8 (.tuple #[.string (Qa4 b.width d),.bool (Qbc b.width d)]) (some 55) rfl rfl (by kernel_rfl) (Or.inl ⟨by rfl,?yf8⟩) hH ?rf8
    case yf8=>intro w' hS';obtain⟨y0,y1,y2,y3⟩:=BH.out _ _ (BQ.out.ext hS');obtain⟨d0,d1,d2,d3,d4⟩:=DQ.out _ hS';go_simp;try with_reducible rfl
    try simp only[zA]
    refine Qah 9 (.string (Qa4 b.width d)) (some 64) rfl rfl (by kernel_rfl) (Or.inl ⟨by rfl,?yf9⟩) hH ?rf9
    case yf9=>intro w' hS';obtain⟨y0,y1,y2,y3⟩:=BH.out _ _ (BQ.out.ext hS');obtain⟨d0,d1,d2,d3,d4⟩:=DQ.out _ hS';go_simp;try with_reducible rfl
    try simp only[zA]
    refine tk 10 (.bool (Qbc b.width d)) (some 65) hH ?_
    try simp only[zA]
    refine Qah 11 (.string (Qa4 b.width d)) (some 10) rfl rfl (by kernel_rfl) (Or.inl ⟨by rfl,?yf11⟩) hH ?rf11
    case yf11=>intro w' hS';obtain⟨y0,y1,y2,y3⟩:=BH.out _ _ (BQ.out.ext hS');obtain⟨d0,d1,d2,d3,d4⟩:=DQ.out _ hS';go_simp;try with_reducible rfl
    try simp only[zA]
    refine tk 12 (.bool (Qbc b.width d)) (some 11) hH ?_
    try simp only[zA]
    have h2:=hH
    refine wpAnyH_done (by kernel_rfl) ?_ _
    clear hH
    have bx:=BQ.out
    replace bx:=bx.ext h2;replace ko:=Qag ko h2;replace he:=he.next h2
    clear h2 BQ DQ
    obtain⟨x,hx⟩:∃ x,x=Qa4 b.width d:=⟨_,rfl⟩
    rw[<-hx] at HX
    rw[<-hx]
    clear hx
    have hw1:=bx.lt
    have BQ:=hU bx;have KO:=hU ko;have HEQ:=hU he
    clear bx ko he
    go_wp2_with (at_builtin;refine Qap _ rfl _ _ 29 rfl (g+1) 9 i0 _ 1 16 Tryz.underlying29 hi hz0 hz1 hz2 rfl (by decide) _ _ _ rfl (KO.out.alloc _) ⟨w2.heap.size,0,none⟩ 1 1 [.string x] rfl rfl ?x11 ?x21 ?x31 ?x41 ?x51 ?_)
    case x11=>exact(Blk.new w2 9 #[.string x]).adds
    case x21=>intro u hu;simp at hu;subst hu;rfl
    case x31=>unfold maxLen;omega
    case x41=>omega
    case x51=>simp;omega
    intro v' w3 hown' hfrm hmv
    have h2:=Ext.new (Below.refl w2.heap.size w2) (.cells #[.string x] 9)
    obtain⟨V',cv',rfl,_⟩:=Qae hown'
    have L0:=hU KO.out.lt
    have bx2:=hU (hfrm.blk (BQ.out.ext h2) (fun e=>by have:=(L0.out _ e).1;omega))
    have he2:=hU (hfrm.toExt (HEQ.out.next h2) (fun y hy e=>by have:=(L0.out _ e).1;omega))
    obtain⟨hkl,hkd⟩:=List.getElem?_eq_some_iff.1 HX.out
    have e2:(T0++T1.take k).flatMap sone++[.string x]=(T0++T1.take (k+1)).flatMap sone:=by rw[List.take_succ_eq_append_getElem hkl,hkd];simp[sone,List.flatMap_append]
    have O2:=hU (show w3.ownsRow (g+1) 9 1 (.slice V' (T0.length+k+1) cv') (T0.length+k+1) ((T0++T1.take (k+1)).flatMap sone) by rw[<-e2];simpa [List.flatMap_append,List.append_assoc] using hown')
    clear hown' hfrm hmv hkd e2 KO BQ HEQ h2 L0
    go_wp2_with fail
    go_roundw
    case rel=>exact⟨k+1,m+1,V',cv',by omega,by have:=HM.out;omega,by go_num,rfl,bx2.out,O2.out,he2.out⟩
    case measure=>simp[intOf];omega
  have ef:f=0:=by
   by_cases e:f=0
   · exact e
   · have h1:=NF.out e;omega
  have ff:((f:Int)==0)=true:=beq_iff_eq.2 (by omega)
  have hm2:m<n0:=by have h1:=NX.out ef;omega
  have TE:=hU (show T0=Qct b by rw[HT0.out,if_pos ef])
  clear ef
  obtain⟨b_,off,rfl,hb_,hc⟩:=Qbb.at_ (S0.out.ext he).e.reads (k:=m) (by rw[<-N0.out];exact hm2)
  obtain⟨d,hd⟩:∃ d,d=b.log.entries[m]'(by rw[<-N0.out];exact hm2):=⟨_,rfl⟩
  have hdl:b.log.entries[m]?=some d:=by rw[hd];exact List.getElem?_eq_getElem _
  have HDO:=hU (HK.out.e d (List.mem_of_getElem? hdl))
  have HX:=hU (show T0[k]?=some (Qa3 d) by rw[TE.out,Qct,List.getElem?_map,show k=m by omega,hdl];rfl)
  obtain⟨d0,d1,d2,d3,d4⟩:=Qdt hc hdl
  clear hc hd hdl hm
  go_wp2_with fail
  refine(Qd4 d _ HDO.out).mono ?_
  rintro e w2 ⟨rfl,h2⟩
  replace bx:=bx.ext h2;replace ko:=Qag ko h2;replace he:=he.next h2
  clear h2 d0 d1 d2 d3 d4 x0 x1 x2 x3
  obtain⟨x,hx⟩:∃ x,x=Qa3 d:=⟨_,rfl⟩
  rw[<-hx] at HX
  rw[<-hx]
  clear hx
  have hw1:=bx.lt
  have BQ:=hU bx;have KO:=hU ko;have HEQ:=hU he
  clear bx ko he
  go_wp2_with (at_builtin;refine Qap _ rfl _ _ 29 rfl (g+1) 9 i0 _ 1 16 Tryz.underlying29 hi hz0 hz1 hz2 rfl (by decide) _ _ _ rfl (KO.out.alloc _) ⟨w2.heap.size,0,none⟩ 1 1 [.string x] rfl rfl ?x10 ?x20 ?x30 ?x40 ?x50 ?_)
  case x10=>exact(Blk.new w2 9 #[.string x]).adds
  case x20=>intro u hu;simp at hu;subst hu;rfl
  case x30=>unfold maxLen;omega
  case x40=>omega
  case x50=>simp;omega
  intro v' w3 hown' hfrm hmv
  have h2:=Ext.new (Below.refl w2.heap.size w2) (.cells #[.string x] 9)
  obtain⟨V',cv',rfl,_⟩:=Qae hown'
  have L0:=hU KO.out.lt
  have bx2:=hU (hfrm.blk (BQ.out.ext h2) (fun e=>by have:=(L0.out _ e).1;omega))
  have he2:=hU (hfrm.toExt (HEQ.out.next h2) (fun y hy e=>by have:=(L0.out _ e).1;omega))
  obtain⟨hkl,hkd⟩:=List.getElem?_eq_some_iff.1 HX.out
  have e2:(T0.take k).flatMap sone++[.string x]=(T0.take (k+1)).flatMap sone:=by rw[List.take_succ_eq_append_getElem hkl,hkd];simp[sone,List.flatMap_append]
  have O2:=hU (show w3.ownsRow (g+1) 9 1 (.slice V' (k+1) cv') (k+1) ((T0.take (k+1)).flatMap sone) by rw[<-e2];simpa [List.flatMap_append,List.append_assoc] using hown')
  clear hown' hfrm hmv hkd e2 KO BQ HEQ h2 L0
  go_wp2_with fail
  go_roundw
  case rel=>exact⟨k+1,m+1,V',cv',by omega,by have:=HM.out;omega,by go_num,rfl,bx2.out,O2.out,he2.out⟩
  case measure=>simp[intOf];omega
end Go.Proofs.YtbnkjgcpjeedfaaGreat

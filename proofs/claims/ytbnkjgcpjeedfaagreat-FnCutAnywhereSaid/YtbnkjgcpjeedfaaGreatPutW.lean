/-
  Reopen4; MendWk; RpnLw; Draw4; PlacesW; PutW: No condition.
-/
import Derived.Test.YtbnkjgcpjeedfaaGreatReopenR
import Derived.Test.YtbnkjgcpjeedfaaGreatReopen2
import Derived.Test.YtbnkjgcpjeedfaaGreatBrkNew
import Derived.Test.YtbnkjgcpjeedfaaGreatNodeW
import Derived.Test.YtbnkjgcpjeedfaaGreatLeafI
import Derived.Test.YtbnkjgcpjeedfaaGreatBrkS
import Derived.Test.YtbnkjgcpjeedfaaGreatReadHd
import Derived.Deep.CutRange
import Derived.Deep.Light
import Derived.Test.YtbnkjgcpjeedfaaGreatReopen3
import Derived.Test.YtbnkjgcpjeedfaaGreatMem
import Derived.Test.YtbnkjgcpjeedfaaGreatRightC
import Derived.Test.YtbnkjgcpjeedfaaGreatCutQ
import Derived.Test.YtbnkjgcpjeedfaaGreatRets
import Derived.Test.YtbnkjgcpjeedfaaGreatHeadOps
import Derived.Test.YtbnkjgcpjeedfaaGreatRowTx
import Derived.Test.YtbnkjgcpjeedfaaGreatDisk0
namespace Go.Proofs.YtbnkjgcpjeedfaaGreat
set_option linter.unusedSimpArgs false
open Go.RowKit
set_option linter.unusedVariables false

set_option maxHeartbeats 4000000
set_option maxRecDepth 100000
theorem Qje(n:Int)(A:Option Addr)(c:Nat)(l:List ByteArray)(w:World)(hr:Qav w w.heap.size sone 1 A l)(hl:l.length<=1048576)(hsz:∀ x∈l,x.size<=1099511627776) :
 Calls Tryz.prog 19 #[.int .i64 n,.agg #[.slice A l.length c]] w (Qlc n l w):=by
 cases h:(inR n 1 32&&Qch l)
 · refine(Qqo n A c l w hr hl h).mono ?_
   rintro e w' ⟨rfl,hx⟩
   exact Qlc.bad (re1 h) (by decide) rfl (World.ownsRow_nil _ _ _ _) hx
 · exact Qov n A c l w hr hl hsz h
def Qxt (n:Int) (l:List ByteArray):Bool:=decide (Qdg n l=0)&&decide ((reW n l).length=0)
theorem Qow(n:Int)(A:Option Addr)(c:Nat)(l:List ByteArray)(w:World)(hr:Qav w w.heap.size sone 1 A l)(hl:l.length<=1048576)(hsz:∀ x∈l,x.size<=1099511627776) :
 Calls Tryz.prog 14 #[.int .i64 n,.agg #[.slice A l.length c]] w fun e w'=>e=.returned (.bool (Qxt n l))/\Ext w w':=by
 have K0:=Blk.new w 52 #[.slice A l.length c]
 have he:=Ext.new (Below.refl w.heap.size w) (.cells #[.slice A l.length c] 52)
 have CL:=hU (Qje n A c l _ (hr.ext he) hl hsz)
 obtain⟨kc,kf⟩:=K0.rules
 obtain⟨fin,hfin⟩:∃ fin,fin=Qxt n l:=⟨_,rfl⟩
 rw[<-hfin]
 have FN:=hU hfin
 clear hfin hr hsz
 go_enter Tryz.func14,Tryz.ntmps14
 go_wp2_with fail
 refine CL.out.mono ?_
 rintro e w1 ⟨ve,vr,vh,v1,v2,vw,rfl,hb,ha,ho,h1⟩
 replace he:=he.next h1
 obtain⟨b,hbb⟩:∃ b,b=reBB n l:=⟨_,rfl⟩
 obtain⟨cc,hcc⟩:∃ cc,cc=Qdg n l:=⟨_,rfl⟩
 obtain⟨N,hN⟩:∃ N,N=(reW n l).length:=⟨_,rfl⟩
 rw[<-hbb] at hb
 rw[<-hN] at ho
 rw[<-hbb,<-hcc]
 rw[Qxt,<-hcc,<-hN] at FN
 obtain⟨E0,e0,rfl,_⟩:=Qae hb.e
 obtain⟨E1,e1,rfl,_⟩:=Qae hb.r
 obtain⟨E2,e2,rfl,_⟩:=Qae hb.h
 obtain⟨E3,e3,rfl,_⟩:=Qae hb.p
 obtain⟨E4,e4,rfl,_⟩:=Qae hb.q
 obtain⟨V,cv,rfl,_⟩:=Qae ho
 clear hbb hcc hN hb ha ho h1 CL K0 kc kf
 simp only[Qe8]
 have KV0:=Blk.new w1 37 #[.int .i64 0,.slice none 0 0,.slice none 0 0,.slice none 0 0,.int .i64 0,.slice none 0 0,.int .i64 0,.slice none 0 0,.int .i64 0,.int .i64 0,.string ⟨#[]⟩,.int .i64 0,.string ⟨#[]⟩]
 obtain⟨w3,hw3,hx⟩:∃ w3,w3=(w1.alloc (.cells #[.int .i64 0,.slice none 0 0,.slice none 0 0,.slice none 0 0,.int .i64 0,.slice none 0 0,.int .i64 0,.slice none 0 0,.int .i64 0,.int .i64 0,.string ⟨#[]⟩,.int .i64 0,.string ⟨#[]⟩] 37)).setCells w1.heap.size 0 [.int .i64 b.width,.slice E0 b.log.entries.length e0,.slice E1 b.receipts.length e1,.slice E2 b.heads.length e2,.int .i64 b.sealed.leaves.size,.slice E3 b.sealed.leaves.peaks.length e3,.int .i64 b.sealed.taken.size,.slice E4 b.sealed.taken.peaks.length e4,.int .i64 b.sealed.head.number,.int .i64 b.sealed.head.size,.string b.sealed.head.root,.int .i64 b.sealed.head.taken,.string b.sealed.head.takenRoot]/\Ext w w3:=
  ⟨_,rfl,Qaa (W:=w) (g:=w1.heap.size) he.size [.int .i64 b.width,.slice E0 b.log.entries.length e0,.slice E1 b.receipts.length e1,.slice E2 b.heads.length e2,.int .i64 b.sealed.leaves.size,.slice E3 b.sealed.leaves.peaks.length e3,.int .i64 b.sealed.taken.size,.slice E4 b.sealed.taken.peaks.length e4,.int .i64 b.sealed.head.number,.int .i64 b.sealed.head.size,.string b.sealed.head.root,.int .i64 b.sealed.head.taken,.string b.sealed.head.takenRoot] 0 _ (he.new _)⟩
 have T4:=hU (KV0.there 0 13 (by simp))
 have HW:=hU hw3;have HX:=hU hx
 clear hw3 hx KV0 he
 go_upto_region 2 with(refine Qac rfl 37 _ _ rfl rfl w1.heap.size 0 [.int .i64 b.width,.slice E0 b.log.entries.length e0,.slice E1 b.receipts.length e1,.slice E2 b.heads.length e2,.int .i64 b.sealed.leaves.size,.slice E3 b.sealed.leaves.peaks.length e3,.int .i64 b.sealed.taken.size,.slice E4 b.sealed.taken.peaks.length e4,.int .i64 b.sealed.head.number,.int .i64 b.sealed.head.size,.string b.sealed.head.root,.int .i64 b.sealed.head.taken,.string b.sealed.head.takenRoot] rfl rfl T4.out (by kernel_rfl) (by rfl) ?_;rw[<-HW.out])
 clear T4 HW
 rcases Nat.eq_zero_or_pos cc with z0|z0
 · have z1:((cc:Int)==0)=true:=beq_iff_eq.2 (by omega)
   rcases Nat.eq_zero_or_pos N with y0|y0
   · have y1:((N:Int)==0)=true:=beq_iff_eq.2 (by omega)
     have E:=hU (show fin=true by rw[FN.out,decide_eq_true z0,decide_eq_true y0];rfl)
     clear z0 y0
     go_wp2_with fail
     go_ret
     exact⟨Qam E.out.symm,HX.out⟩
   · have y1:((N:Int)==0)=false:=beq_false_of_ne (by omega)
     have E:=hU (show fin=false by rw[FN.out,decide_eq_true z0,decide_eq_false (by omega)];rfl)
     clear z0 y0
     go_wp2_with fail
     go_ret
     exact⟨Qam E.out.symm,HX.out⟩
 · have z1:((cc:Int)==0)=false:=beq_false_of_ne (by omega)
   have E:=hU (show fin=false by rw[FN.out,decide_eq_false (by omega)];rfl)
   clear z0
   go_wp2_with fail
   go_ret
   exact⟨Qam E.out.symm,HX.out⟩
end Go.Proofs.YtbnkjgcpjeedfaaGreat
namespace Go.Proofs.YtbnkjgcpjeedfaaGreat
set_option linter.unusedSimpArgs false
open Go.RowKit Go.WideShapes Go.ChangeAt
set_option linter.unusedVariables false
theorem Qtk{w:World}{n:Nat}{cs:List Value}(h:Qlv Tryz.prog w n 5 cs):∃ x,cs=Qn8 x/\Qld x:=by
 obtain⟨m,rfl,hw⟩:=Qwg Tryz.underlying5 h
 refine⟨m,rfl,?_⟩
 simp[Lit.wf,IntKind.min,IntKind.max,IntKind.signed,IntKind.bits] at hw
 exact⟨by omega,by omega⟩
theorem Qun(A:Option Addr)(n c:Nat)(w:World)(h:n<=maxLen):Calls Tryz.prog 7 #[.slice A n c] w fun e w'=>e=.returned (.bool (decide (1048576<n)))/\w=w':=by
 by_cases hb:1048576<n
 · have hd:decide (1048576<n)=true:=decide_eq_true hb
   rw[hd]
   go_enter Tryz.func7,Tryz.ntmps7
   go_wp2_with fail
   go_ret
   exact⟨Qam (by simp;omega),rfl⟩
 · have hd:decide (1048576<n)=false:=decide_eq_false hb
   rw[hd]
   go_enter Tryz.func7,Tryz.ntmps7
   go_wp2_with fail
   go_ret
   exact⟨Qam (by simp;omega),rfl⟩
theorem Qyg{b:Qad}(hB:Qar b=true):reBB b.width (Qcl b)=b/\reW b.width (Qcl b)=[]/\Qdg b.width (Qcl b)=0/\Qxt b.width (Qcl b)=true:=by
 obtain⟨h1,h2,h3⟩:=Qvp hB
 have e1:reW b.width (Qcl b)=[]:=by rw[reW,if_pos h2,h3];rfl
 exact⟨by rw[reBB,if_pos h2,h1],e1,h2,by rw[Qxt,h2,e1];rfl⟩
theorem Qvo{b:Qad}(hB:Qar b=true):∀ x∈Qcl b,x.size<=1099511627776:=by
 intro x hx
 have f0:=(Qce hB 0).2;have f1:=(Qce hB 1).2;have f2:=(Qce hB 2).2
 simp only[Qcl,List.mem_cons,List.not_mem_nil,or_false] at hx
 rcases hx with rfl|rfl|rfl <;> omega
end Go.Proofs.YtbnkjgcpjeedfaaGreat
namespace Go.Proofs.YtbnkjgcpjeedfaaGreat
set_option linter.unusedSimpArgs false
open Go.RowKit
set_option linter.unusedVariables false


set_option maxHeartbeats 4000000
set_option maxRecDepth 100000
theorem Qr5(q c k p:Nat)(s t:ByteArray)(w:World)(hc:w.cell? ⟨q,k,none⟩=some (.string s))(hq:q<w.heap.size)(hk:k<3)(ha:p<=s.size)(hs:s.size<=300000)(ht:t.size+p<=300000) :
 Calls Tryz.prog 65 #[.agg #[.slice (some ⟨q,0,none⟩) 3 c],.agg #[.int .i64 (k:Int),.int .i64 (p:Int),.string t]] w fun e w'=>e=.returned (.bool true)/\Ext w w':=by
 obtain⟨B0,B1,he⟩:=Qfc w #[.slice (some ⟨q,0,none⟩) 3 c] #[.int .i64 (k:Int),.int .i64 (p:Int),.string t] 52 50
 have I1:inR (k:Int) 0 2=true:=by simp[inR];omega
 have I2:inR (p:Int) 0 (s.size:Int)=true:=by simp[inR];omega
 have HC:=hU ((he.cell (p:=⟨q,k,none⟩) hq).trans hc)
 have K0:=hU B0;have K1:=hU B1;have HE:=hU he
 have hq1:q<((w.alloc (.cells #[.slice (some ⟨q,0,none⟩) 3 c] 52)).alloc (.cells #[.int .i64 (k:Int),.int .i64 (p:Int),.string t] 50)).heap.size:=Nat.lt_of_lt_of_le hq he.size
 obtain⟨g,hg⟩:∃ g,g=w.heap.size:=⟨_,rfl⟩
 clear B0 B1 hc he
 have C1:=hU (fun W=>Qba (k:Int) 0 2 W)
 have C2:=hU (fun W=>Qba (p:Int) 0 (s.size:Int) W)
 rw[I1] at C1
 rw[I2] at C2
 have e9:(300000:Int)-(p:Int)=((300000-p:Nat):Int):=by omega
 have e8:IntKind.i64.wrap ((300000-p:Nat):Int)=((300000-p:Nat):Int):=IntWalk.i64_in _ (by omega)
 have e7:t.size<=300000-p:=by omega
 have ew2:IntKind.i64.wrap 2=2:=by decide
 have hk3:(k:Int)<3:=by omega
 have hk4:¬ (3:Int)<=(k:Int):=by omega
 clear I1 I2
 go_enter Tryz.func65,Tryz.ntmps65
 go_upto_region 1 with fail
 obtain⟨w1,hw1⟩:∃ w1,w1=(w.alloc (.cells #[.slice (some ⟨q,0,none⟩) 3 c] 52)).alloc (.cells #[.int .i64 (k:Int),.int .i64 (p:Int),.string t] 50):=⟨_,rfl⟩
 rw[<-hw1] at HC K0 K1 HE hq1
 rw[<-hw1]
 rw[<-hg] at K0 K1
 rw[<-hg]
 clear hw1 hg
 refine wp_region_held_drew (S:=fun w'=>Ext w1 w') (by kernel_rfl) (Below.refl _ _).drew (fun hH=>?_)
 refine tk 0 (.pointer (some ⟨g+1,0,none⟩)) (some 5) hH ?_
 try simp only[zA]
 refine Qah 1 (.int .i64 (k:Int)) (some 6) rfl rfl (by kernel_rfl) (Or.inl ⟨by rfl,?yf2⟩) hH ?rf2
 case yf2=>intro w' hS';obtain⟨r0,f0⟩:=(K0.out.ext hS').rules;obtain⟨r1,f1⟩:=(K1.out.ext hS').rules;have cq:=(hS'.cell (p:=⟨q,k,none⟩) hq1).trans HC.out;go_simp;try with_reducible rfl
 try simp only[zA]
 refine tk 2 (.pointer (some ⟨g,0,none⟩)) (some 7) hH ?_
 try simp only[zA]
 refine Qah 3 (.slice (some ⟨q,0,none⟩) 3 c) (some 8) rfl rfl (by kernel_rfl) (Or.inl ⟨by rfl,?yf4⟩) hH ?rf4
 case yf4=>intro w' hS';obtain⟨r0,f0⟩:=(K0.out.ext hS').rules;obtain⟨r1,f1⟩:=(K1.out.ext hS').rules;have cq:=(hS'.cell (p:=⟨q,k,none⟩) hq1).trans HC.out;go_simp;try with_reducible rfl
 try simp only[zA]
 refine Qah 4 (.int .i64 (3:Int)) (some 9) rfl rfl (by kernel_rfl) (Or.inl ⟨by rfl,?yf5⟩) hH ?rf5
 case yf5=>intro w' hS';obtain⟨r0,f0⟩:=(K0.out.ext hS').rules;obtain⟨r1,f1⟩:=(K1.out.ext hS').rules;have cq:=(hS'.cell (p:=⟨q,k,none⟩) hq1).trans HC.out;go_simp;try with_reducible rfl
 try simp only[zA]
 refine Qah 5 (.int .i64 2) (some 10) rfl rfl (by kernel_rfl) (Or.inl ⟨by rfl,?yf6⟩) hH ?rf6
 case yf6=>intro w' hS';obtain⟨r0,f0⟩:=(K0.out.ext hS').rules;obtain⟨r1,f1⟩:=(K1.out.ext hS').rules;have cq:=(hS'.cell (p:=⟨q,k,none⟩) hq1).trans HC.out;go_simp;try with_reducible rfl
 try simp only[zA]
 refine oneH 6 (oi:=_) (some 11) (by kernel_rfl) rfl rfl rfl (fun K' hK=>?_)
 refine⟨?_⟩
 rw[if_pos (by rfl)]
 go_simp
 refine(C1.out _).mono ?_
 rintro e w2 ⟨rfl,rfl⟩
 refine hK.out _ _ ⟨_,rfl⟩ (hH) (fun hH2=>?_)
 clear hK K' hH
 have hH:=hH2
 clear hH2
 try simp only[zB]
 refine tk 7 (.bool false) (some 12) hH ?_
 try simp only[zA]
 refine tk 8 (.bool false) (some 13) hH ?_
 try simp only[zA]
 refine tk 9 (.pointer (some ⟨g+1,1,none⟩)) (some 14) hH ?_
 try simp only[zA]
 refine Qah 10 (.int .i64 (p:Int)) (some 15) rfl rfl (by kernel_rfl) (Or.inl ⟨by rfl,?yf10⟩) hH ?rf10
 case yf10=>intro w' hS';obtain⟨r0,f0⟩:=(K0.out.ext hS').rules;obtain⟨r1,f1⟩:=(K1.out.ext hS').rules;have cq:=(hS'.cell (p:=⟨q,k,none⟩) hq1).trans HC.out;go_simp;try with_reducible rfl
 try simp only[zA]
 refine tk 11 (.pointer (some ⟨g,0,none⟩)) (some 16) hH ?_
 try simp only[zA]
 refine Qah 12 (.slice (some ⟨q,0,none⟩) 3 c) (some 17) rfl rfl (by kernel_rfl) (Or.inl ⟨by rfl,?yf12⟩) hH ?rf12
 case yf12=>intro w' hS';obtain⟨r0,f0⟩:=(K0.out.ext hS').rules;obtain⟨r1,f1⟩:=(K1.out.ext hS').rules;have cq:=(hS'.cell (p:=⟨q,k,none⟩) hq1).trans HC.out;go_simp;try with_reducible rfl
 try simp only[zA]
 refine tk 13 (.pointer (some ⟨g+1,0,none⟩)) (some 18) hH ?_
 try simp only[zA]
 refine Qah 14 (.int .i64 (k:Int)) (some 19) rfl rfl (by kernel_rfl) (Or.inl ⟨by rfl,?yf14⟩) hH ?rf14
 case yf14=>intro w' hS';obtain⟨r0,f0⟩:=(K0.out.ext hS').rules;obtain⟨r1,f1⟩:=(K1.out.ext hS').rules;have cq:=(hS'.cell (p:=⟨q,k,none⟩) hq1).trans HC.out;go_simp;try with_reducible rfl
 try simp only[zA]
 refine tk 15 (.pointer (some ⟨q,k,none⟩)) (some 20) hH ?_
 try simp only[zA]
 refine Qah 16 (.string s) (some 21) rfl rfl (by kernel_rfl) (Or.inl ⟨by rfl,?yf16⟩) hH ?rf16
 case yf16=>intro w' hS';obtain⟨r0,f0⟩:=(K0.out.ext hS').rules;obtain⟨r1,f1⟩:=(K1.out.ext hS').rules;have cq:=(hS'.cell (p:=⟨q,k,none⟩) hq1).trans HC.out;go_simp;try with_reducible rfl
 try simp only[zA]
 refine Qah 17 (.int .i64 (s.size:Int)) (some 22) rfl rfl (by kernel_rfl) (Or.inl ⟨by rfl,?yf17⟩) hH ?rf17
 case yf17=>intro w' hS';obtain⟨r0,f0⟩:=(K0.out.ext hS').rules;obtain⟨r1,f1⟩:=(K1.out.ext hS').rules;have cq:=(hS'.cell (p:=⟨q,k,none⟩) hq1).trans HC.out;go_simp;try with_reducible rfl
 try simp only[zA]
 refine Qu5 18 (oi:=_) (some 23) (by kernel_rfl) rfl (by rfl) rfl (fun K' hK=>?_)
 refine⟨?_⟩
 rw[if_pos (by rfl)]
 go_simp
 refine(C2.out _).mono ?_
 rintro e w2 ⟨rfl,rfl⟩
 refine hK.out _ _ ⟨_,rfl⟩ (hH) (fun hH2=>?_)
 clear hK K' hH
 have hH:=hH2
 clear hH2
 try simp only[zB]
 refine tk 19 (.bool false) (some 24) hH ?_
 try simp only[zA]
 refine tk 20 (.bool false) (some 25) hH ?_
 try simp only[zA]
 have h1:=hH
 clear hH
 refine wpAnyH_done (by kernel_rfl) ?_ _
 obtain⟨r1,f1⟩:=(K1.out.ext h1).rules
 have HX:=hU (HE.out.next h1)
 clear h1
 go_wp2_with fail
 go_ret
 first|exact⟨rfl,HX.out⟩|exact⟨Qam (by simp),HX.out⟩|exact⟨Qam (by simp;omega),HX.out⟩
theorem Qt9(gd q c k p:Nat)(s t:ByteArray)(cur:Array Value)(w:World)(hd:Blk w gd 52 #[.slice (some ⟨q,0,none⟩) 3 c])(hq:Blk w q 9 cur)(hne:gd≠q)(hc:cur[k]?=some (.string s))(hk:k<3)(ha:p<=s.size)(hs:s.size<=300000)(ht:t.size+p<=300000) :
 Calls Tryz.prog 66 #[.pointer (some ⟨gd,0,none⟩),.agg #[.int .i64 (k:Int),.int .i64 (p:Int),.string t]] w fun e w'=>∃ v,e=.returned v/\Blk w' q 9 (cur.setIfInBounds k (.string (s.extract 0 p++t)))/\Qaz q w w':=by
 have B0:=Blk.new w 50 #[.int .i64 (k:Int),.int .i64 (p:Int),.string t]
 have he:=Ext.new (Below.refl w.heap.size w) (.cells #[.int .i64 (k:Int),.int .i64 (p:Int),.string t] 50)
 have K0:=hU B0;have KD:=hU (hd.ext he);have KQ:=hU (hq.ext he);have HE:=hU he
 have hql:=hq.lt
 obtain⟨g,hg⟩:∃ g,g=w.heap.size:=⟨_,rfl⟩
 clear B0 hd hq he
 go_enter Tryz.func66,Tryz.ntmps66
 go_upto_region 1 with fail
 obtain⟨w1,hw1⟩:∃ w1,w1=w.alloc (.cells #[.int .i64 (k:Int),.int .i64 (p:Int),.string t] 50):=⟨_,rfl⟩
 rw[<-hw1] at K0 KD KQ HE
 rw[<-hw1]
 rw[<-hg] at K0 hql
 rw[<-hg]
 clear hw1
 have hgw:w.heap.size<=g:=by omega
 clear hg
 obtain⟨r0,f0⟩:=K0.out.rules
 obtain⟨r1,f1⟩:=KD.out.rules
 have cq:w1.cell? ⟨q,k,none⟩=some (.string s):=(KQ.out.cell k).trans hc
 have cf:=KQ.out.frozen k
 have hk3:(k:Int)<3:=by omega
 have hk4:¬ (3:Int)<=(k:Int):=by omega
 have hps:(p:Int)<=(s.size:Int):=by omega
 have hzk:(0:Int)<=(k:Int):=by omega
 have hcat:¬ 9223372036854775807<p+t.size:=by omega
 go_still_tail 20,(by kernel_rfl)
 change wpList _ _ _ _ _ w1.drew
 generalize hwd:w1.drew=wd
 have KQ2:=hU (show Blk wd q 9 cur by rw[<-hwd];exact KQ.out.drew)
 have E2:=hU (show Ext w wd by rw[<-hwd];exact HE.out.drew)
 have cq2:wd.cell? ⟨q,k,none⟩=some (.string s):=by rw[<-hwd];exact cq
 have cf2:=KQ2.out.frozen k
 clear hwd r0 f0 r1 f1 cq cf
 have Z1:=hU (KQ2.out.set_ k (.string (s.extract 0 p++t)))
 have Z2:=hU (show Qaz q w (wd.setCell ⟨q,k,none⟩ (.string (s.extract 0 p++t))) from Qaz.set_ (Qaz.of_ext E2.out) k (.string (s.extract 0 p++t)))
 go_wp2_with fail
 exact bodyPost_end (results_none rfl _ _ _) rfl ⟨⟨_,rfl⟩,Z1.out,Z2.out⟩
theorem Qim(A:Option Addr)(c:Nat)(l:List ByteArray)(w:World)(hr:SlF AnyB sone 1 w A l c)(hl:l.length<=1048576) :
 Calls Tryz.prog 64 #[.agg #[.slice A l.length c]] w fun e w'=>∃ v,e=.returned (.agg #[v])/\w'.ownsRow w.heap.size 9 1 v l.length (l.flatMap sone)/\Ext w w':=by
 obtain⟨B0,B1,he⟩:=Qcq w #[.slice A l.length c] #[.slice none 0 0] 52 52
 have CL:=hU (Qpu A c l _ (hr.ext he) hl)
 obtain⟨r0,f0⟩:=B0.rules
 have K1:=hU B1;have HE:=hU he
 have hs:=he.size
 have h1l:=B1.lt
 clear B0 B1 he hr
 go_enter Tryz.func64,Tryz.ntmps64
 go_wp2_with fail
 refine CL.out.mono ?_
 rintro e w2 ⟨v,rfl,ho,h1⟩
 obtain⟨V,vc,rfl,_⟩:=Qae ho
 have K2:=K1.out.ext h1
 have Z1:=hU (K2.put 0 [.slice V l.length vc] #[.slice V l.length vc] (by simp) rfl)
 have Z2:=hU (Qaa (W:=w) (g:=w.heap.size+1) (by omega) [.slice V l.length vc] 0 _ (HE.out.next h1))
 have Z3:=hU (Qaj (B':=w.heap.size) (Qjs ho (Qc4 (w.heap.size+1) [.slice V l.length vc] 0 w2 w2 (World.grownBy.refl _ _)) h1l) hs)
 obtain⟨r1,f1⟩:=K2.rules
 clear K2 ho h1
 go_wp2_with fail
 exact Qdc rfl rfl Z1.out Tryz.underlying52 rfl (by kernel_rfl) rfl ⟨_,rfl,Z3.out,Z2.out⟩
end Go.Proofs.YtbnkjgcpjeedfaaGreat

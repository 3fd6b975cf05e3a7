/-
  CanLw: No condition.
-/
import Derived.Test.YtbnkjgcpjeedfaaGreatMem
import Derived.Test.YtbnkjgcpjeedfaaGreatSpFetI0
import Derived.Test.YtbnkjgcpjeedfaaGreatCanA
import Derived.Test.YtbnkjgcpjeedfaaGreatDeedN
import Derived.Test.YtbnkjgcpjeedfaaGreatPubA
import Derived.BigQuiet
namespace Go.Proofs.YtbnkjgcpjeedfaaGreat
set_option maxHeartbeats 16000000
set_option maxRecDepth 100000
set_option linter.unusedSimpArgs false
open Go.RowKit Go.WideShapes Go.ChangeAt
set_option linter.unusedVariables false
theorem Qum{p:Nat->Prop}{B:Qad}{L:List Value}{w:World}(h:BRdL p B L w):BRdL AnyB B L w:=by
 obtain⟨X0,x0,X1,x1,X2,x2,X3,x3,X4,x4,h1,s⟩:=h
 exact⟨X0,x0,X1,x1,X2,x2,X3,x3,X4,x4,h1,s.any⟩
theorem Qex{w:World}{a b t t':Nat}{cs cs':Array Value}(h:Blk w a t cs)(h':Blk w b t' cs')(n:t≠t'):a≠b:=by
 intro e
 subst e
 rw[Blk] at h h'
 rw[h] at h'
 injection h' with h'
 injection h' with _ h3
 exact n h3
theorem threeH{P:Program}{md:Region.Mode}{ops:Array Oper}{Q:Exit->Act->World->Prop}{S:World->Prop}(i j k:Nat){oi oj ok:Oper}{fuel:Nat}{listed:Array Bool}{a:Act}{w:World}(d e f:Option Tmp)(hr:Region.ready md ops listed=[i,j,k])
 (hi:ops[i]?=some oi) (hg:oi.guard=none) (hd:oi.dst=d) (hj:ops[j]?=some oj) (hgj:oj.guard=none) (hdj:oj.dst=e) (hk:ops[k]?=some ok) (hgk:ok.guard=none) (hdk:ok.dst=f)
 (h:∀ K':Act->World->Prop,Shut (∀ a' w',(∃ v,a'=a.put d v)->S w'->(S w'->wpAnyH P md ops Q S fuel (listed.setIfInBounds i true) a' w')->K' a' w')->Qoz (if Region.wanted oi (yielded ops a.tmps)=true then Oper.wp P oi a w K' Q else K' (a.put oi.dst undef) w))
 (h':∀ K':Act->World->Prop,Shut (∀ a' w',(∃ v,a'=a.put e v)->S w'->(S w'->wpAnyH P md ops Q S fuel (listed.setIfInBounds j true) a' w')->K' a' w')->Qoz (if Region.wanted oj (yielded ops a.tmps)=true then Oper.wp P oj a w K' Q else K' (a.put oj.dst undef) w))
 (h'':∀ K':Act->World->Prop,Shut (∀ a' w',(∃ v,a'=a.put f v)->S w'->(S w'->wpAnyH P md ops Q S fuel (listed.setIfInBounds k true) a' w')->K' a' w')->Qoz (if Region.wanted ok (yielded ops a.tmps)=true then Oper.wp P ok a w K' Q else K' (a.put ok.dst undef) w)):wpAnyH P md ops Q S (fuel+1) listed a w:=by
 have one:∀(x:Nat) (o:Oper) (c:Option Tmp),ops[x]?=some o->o.guard=none->(∀ K':Act->World->Prop,Shut (∀ a' w',(∃ v,a'=a.put c v)->S w'->(S w'->wpAnyH P md ops Q S fuel (listed.setIfInBounds x true) a' w')->K' a' w')->Qoz (if Region.wanted o (yielded ops a.tmps)=true then Oper.wp P o a w K' Q else K' (a.put o.dst undef) w))->wpOp P ops Q x (fun a' w'=>S w'/\wpAnyH P md ops Q S fuel (listed.setIfInBounds x true) a' w') a w:=by
  intro x o c hx hgx hs
  unfold wpOp
  simp only[hx]
  have hw:Region.wanted o (yielded ops a.tmps)=true:=by simp[Region.wanted,hgx]
  rw[if_pos hw]
  have h2:=hs (fun a' w'=>S w'/\wpAnyH P md ops Q S fuel (listed.setIfInBounds x true) a' w') fun a' w' _ hS hW=>⟨hS,hW hS⟩
  replace h2:=h2.out
  rw[if_pos hw] at h2
  exact .inl h2
 refine wpAnyH_all hr (by simp) fun x hx=>?_
 rcases List.mem_cons.1 hx with rfl|hx
 · exact one _ _ d hi hg h
 rcases List.mem_cons.1 hx with rfl|hx
 · exact one _ _ e hj hgj h'
 obtain rfl:x=k:=by simpa using hx
 exact one _ _ f hk hgk h''
theorem Qwa:∀ t∈whos,t.size<=20:=by
 intro t ht
 simp only[whos,List.mem_cons,List.not_mem_nil,or_false] at ht
 rcases ht with rfl|rfl|rfl <;> decide
theorem Qjt(A:Option Addr)(c:Nat)(l:List Int)(w:World)(hlen:l.length<=maxLen)(hin:∀ x∈l,Qld x)(hr:Qav w w.heap.size Qn8 1 A l) :
 Calls Tryz.prog 3 #[.slice A l.length c] w fun e w'=>e=.returned (.bool true)/\Ext w w':=by
 by_cases hb:1048576<l.length
 · have hd:decide (1048576<l.length)=true:=decide_eq_true hb
   go_enter Tryz.func3,Tryz.ntmps3
   go_wp2_with (go_at_call 7;refine(Qun _ _ _ _ hlen).mono ?_;rintro e w' ⟨rfl,rfl⟩;rw[hd])
   go_ret
   exact⟨rfl,Below.refl _ _⟩
 have hd:decide (1048576<l.length)=false:=decide_eq_false hb
 have Hr:=hU hr;clear hr
 have Hin:=hU hin;clear hin
 go_enter Tryz.func3,Tryz.ntmps3
 go_wp2_with (go_at_call 7;refine(Qun _ _ _ _ hlen).mono ?_;rintro e w' ⟨rfl,rfl⟩;rw[hd])
 refine(Qq2 A c l _ hlen Hin.out Hr.out).mono ?_
 rintro e w1 ⟨b,M,hB,rfl,hv,he⟩
 have KZ:=Blk.new w1 37 #[.int .i64 0,.slice none 0 0,.slice none 0 0,.slice none 0 0,.int .i64 0,.slice none 0 0,.int .i64 0,.slice none 0 0,.int .i64 0,.int .i64 0,.string ⟨#[]⟩,.int .i64 0,.string ⟨#[]⟩]
 obtain⟨w2,hwa,K3,hx2⟩:∃ wa,wa=(w1.alloc (.cells #[.int .i64 0,.slice none 0 0,.slice none 0 0,.slice none 0 0,.int .i64 0,.slice none 0 0,.int .i64 0,.slice none 0 0,.int .i64 0,.int .i64 0,.string ⟨#[]⟩,.int .i64 0,.string ⟨#[]⟩] 37)).setCells w1.heap.size 0 M/\Blk wa w1.heap.size 37 M.toArray/\Ext w1 wa:=⟨_,rfl,Qas KZ M (by rw[hv.len];rfl),Qaa (W:=w1) (Nat.le_refl _) M 0 _ (Ext.new (Below.refl _ _) _)⟩
 have T4:=hU (show World.there (w1.alloc (.cells #[.int .i64 0,.slice none 0 0,.slice none 0 0,.slice none 0 0,.int .i64 0,.slice none 0 0,.int .i64 0,.slice none 0 0,.int .i64 0,.int .i64 0,.string ⟨#[]⟩,.int .i64 0,.string ⟨#[]⟩] 37)) w1.heap.size 0 M.length by rw[hv.len];exact KZ.there 0 13 (by simp));have HW:=hU hwa
 have HX13:=hU hv.len;have HX1:=hU hv.one
 have hs1:=he.size
 clear hwa KZ
 replace hv:=hv.ext hx2;replace he:=he.next hx2
 go_upto_region 4 with(refine Qac rfl 37 _ _ rfl rfl w1.heap.size 0 M rfl rfl T4.out (by rw[HX13.out];kernel_rfl) HX1.out ?_;rw[<-HW.out])
 obtain⟨g3,hg3⟩:∃ g3,g3=w1.heap.size:=⟨_,rfl⟩
 rw[<-hg3] at K3
 rw[<-hg3]
 have hg3w:w.heap.size<=g3:=by omega
 clear T4 HW HX1 hx2 hg3 hs1 hd hb
 have DN:=hU (fun(W:World) (h:Ext w W)=>Qq3 A c l W hlen Hin.out (Hr.out.ext h))
 clear Hr Hin
 have HV:=hU hv;have HE:=hU he;have K3H:=hU K3;have RBH:=hU hB
 have g3l:=K3.lt
 clear hv he K3 hB
 go_wp2_with fail
 refine(DN.out _ HE.out).mono ?_
 rintro e w3 ⟨h1,x,t1,n1,s1,s2,who,t2,n2,y1,y2,y3,qi,hx,ht1,hs1,hs2,hwho,ht2,hn1,hn2,hn3,rfl,ki,hy1,hy2,hy3⟩
 obtain⟨d,hd⟩:∃ d:Qaf,d=⟨t1,0,(n1:Int),s1,s2⟩:=⟨_,rfl⟩
 obtain⟨r,hr⟩:∃ r:Qab,r=⟨who,t2,n2⟩:=⟨_,rfl⟩
 have HP:=hU (show Qca b d=0 by rw[hd];exact pub_code RBH.out ht1 hn1 hs1 hs2)
 have DK:Hid d.Ok:=hU (by rw[hd];exact⟨by have:=Qf7 t1 ht1;show t1.size<=maxLen;unfold maxLen;omega,Ql2 (k:=0) (by decide) (by decide),Ql2 (k:=(n1:Int)) (by omega) (by omega),by show s1.size<=maxLen;unfold maxLen;omega,by show s2.size<=maxLen;unfold maxLen;omega⟩)
 have RK:Hid r.Ok:=hU (by rw[hr];exact Qw8 (Qwa who hwho) (Qf7 t2 ht2) hn2 hn3)
 have X3:=hU h1
 obtain⟨B5,B6,hx4⟩:=Qcq w3 #[.string t1,.int .i64 0,.int .i64 (n1:Int),.string s1,.string s2] #[.string who,.string t2,.int .i64 n2] 40 42
 have KI:=hU (ki.ext hx4)
 replace X3:=hU (X3.out.next hx4)
 clear h1 ki hx4 DN ht1 hs1 hs2 hwho ht2 hn1 hn2 hn3
 go_upto_region 5 with fail
 obtain⟨g5,hg5⟩:∃ g5,g5=w3.heap.size:=⟨_,rfl⟩
 rw[<-hg5] at B5 B6
 rw[<-hg5]
 clear hg5
 generalize (w3.alloc (.cells #[.string t1,.int .i64 0,.int .i64 (n1:Int),.string s1,.string s2] 40)).alloc (.cells #[.string who,.string t2,.int .i64 n2] 42)=w4 at *
 have DD:Hid (Calls Tryz.prog 10 #[.agg M.toArray,.int .i64 x,.agg #[.string t1,.int .i64 0,.int .i64 (n1:Int),.string s1,.string s2],.agg #[.string who,.string t2,.int .i64 n2]] w4 fun e w'=>Qsi b (Qjf b x d r) w4 e w'):=hU (by
  have h:=did_good b x d r M w4 RBH.out.1 (Qum (HV.out.ext X3.out).rd) HX13.out DK.out RK.out
  rw[hd,hr] at h
  rw[hd,hr]
  exact h)
 obtain⟨cc,hcc⟩:∃ cc,cc=Qjf b x d r:=⟨_,rfl⟩
 rw[<-hcc] at DD
 have HCC:Hid (cc≠0->0<x):=hU (fun h=>by
  rcases Int.lt_or_eq_of_le hx.1 with h2|h2
  · exact h2
  · refine absurd ?_ h
    rw[hcc,<-h2,Qjf,if_pos rfl,HP.out])
 clear hcc HP DK RK hd hr
 have RX:=hU (Blk.range (K3H.out.ext X3.out))
 obtain⟨r5,f5⟩:=B5.rules
 obtain⟨r6,f6⟩:=B6.rules
 go_wp2_with (refine wpList_load_mid rfl 37 _ rfl g3 0 rfl M _ RX.out Tryz.underlying37 rfl (by rw[HX13.out];kernel_rfl) ?_)
 refine DD.out.mono ?_
 rintro e w5 ⟨N,V,nw,vc,rfl,n13,n1',dn,h1⟩
 have N13:=hU n13;have N1:=hU n1'
 have KZ:=Blk.new w5 37 #[.int .i64 0,.slice none 0 0,.slice none 0 0,.slice none 0 0,.int .i64 0,.slice none 0 0,.int .i64 0,.slice none 0 0,.int .i64 0,.int .i64 0,.string ⟨#[]⟩,.int .i64 0,.string ⟨#[]⟩]
 obtain⟨w6,hwa,K8,hx2⟩:∃ wa,wa=(w5.alloc (.cells #[.int .i64 0,.slice none 0 0,.slice none 0 0,.slice none 0 0,.int .i64 0,.slice none 0 0,.int .i64 0,.slice none 0 0,.int .i64 0,.int .i64 0,.string ⟨#[]⟩,.int .i64 0,.string ⟨#[]⟩] 37)).setCells w5.heap.size 0 N/\Blk wa w5.heap.size 37 N.toArray/\Ext w5 wa:=⟨_,rfl,Qas KZ N (by rw[n13];rfl),Qaa (W:=w5) (Nat.le_refl _) N 0 _ (Ext.new (Below.refl _ _) _)⟩
 have T4:=hU (show World.there (w5.alloc (.cells #[.int .i64 0,.slice none 0 0,.slice none 0 0,.slice none 0 0,.int .i64 0,.slice none 0 0,.int .i64 0,.slice none 0 0,.int .i64 0,.int .i64 0,.string ⟨#[]⟩,.int .i64 0,.string ⟨#[]⟩] 37)) w5.heap.size 0 N.length by rw[n13];exact KZ.there 0 13 (by simp));have HW:=hU hwa
 have DN6:Hid (cc=0->∃(b':Qad) (f:Nat) (t:ByteArray),Deed b b' f t/\nw=1/\1<=vc/\BVal w4.heap.size b' N w6/\Qhd w4.heap.size w6 V vc ⟨(f:Int),((wasT b f).size:Int),Qax t⟩):=hU (fun h0=>by
  obtain⟨b',f,t,a1,a2,a3,a4,a5⟩:=dn h0
  exact⟨b',f,t,a1,a2,a3,a4.ext hx2,a5.ext hx2⟩)
 replace X3:=hU (X3.out.next (h1.next hx2));replace KI:=hU ((KI.out.ext h1).ext hx2)
 have K8H:=hU K8
 clear n13 n1' dn h1 hwa hx2 KZ K8 r5 f5 r6 f6 B5 B6 RX DD
 go_upto_region 6 with(refine Qac rfl 37 _ _ rfl rfl w5.heap.size 0 N rfl rfl T4.out (by rw[N13.out];kernel_rfl) N1.out ?_;rw[<-HW.out])
 obtain⟨g8,hg8⟩:∃ g8,g8=w5.heap.size:=⟨_,rfl⟩
 rw[<-hg8] at K8H
 rw[<-hg8]
 clear T4 HW hg8
 by_cases h0:cc=0
 case neg=>
  have z1:((cc:Int) != 0)=true:=by simp;omega
  have z2:((cc:Int)==0)=false:=beq_false_of_ne (by omega)
  have xp:0<x:=HCC.out h0
  clear h0
  go_wp2_with fail
  go_ret
  exact⟨by first|rfl|(simp[xp];done),HE.out.next X3.out⟩
 subst h0
 obtain⟨b',f,t,D0,hnw,hvc,hn,hwr⟩:=DN6.out rfl
 have D:=hU D0;have HN:=hU hn;have WR:=hU hwr
 subst hnw
 obtain⟨bw,ow,hVe,hbw,hcw⟩:=Qbb.at_ hwr.reads (k:=0) (by simp)
 subst hVe
 obtain⟨TX,hTX⟩:∃ TX,TX=Qax t:=⟨_,rfl⟩
 have HTX:=hU hTX
 have CW:Hid (∀ W:World,Ext w6 W->W.cell? ⟨bw,ow+2,none⟩=some (.string TX)):=hU (fun W h=>by
  have:=hcw 2 (.string TX) (by rw[hTX];rfl)
  refine(h.cell (p:=⟨bw,ow+2,none⟩) hbw).trans (by simpa using this))
 have hTXs:TX.size<=506:=by rw[hTX,D0.out.2.1];exact D0.out.2.2.1
 clear D0 hn hwr hcw hTX DN6 HCC
 have cw:=CW.out w6 (Below.refl _ _)
 obtain⟨ri,fi⟩:=KI.out.rules
 obtain⟨j2,rfl⟩:∃ k:Nat,y2=(k:Int):=⟨y2.toNat,by omega⟩
 obtain⟨pt,hpt⟩:∃ pt,pt=j2 % (TX.size+1):=⟨_,rfl⟩
 have hp1:(j2:Int) % ((TX.size:Int)+1)=(pt:Int):=by subst hpt;rfl
 have hp2:pt<=TX.size:=by rw[hpt];have:=Nat.mod_lt j2 (show 0<TX.size+1 by omega);omega
 have hp3:(((TX.size:Int)+1)==0)=false:=beq_false_of_ne (by omega)
 clear hpt
 go_upto_region 10 with fail
 go_quiet (fail)
 go_upto_region 11 with fail
 rw[hp1]
 have e7:Ext w6 (w6.drewN nq):=⟨(Below.refl w6.heap.size w6).os,(Below.refl w6.heap.size w6).tape,(Below.refl w6.heap.size w6).output,(Below.refl w6.heap.size w6).size,(Below.refl w6.heap.size w6).block⟩
 have CW7:Hid (∀ W:World,Ext (w6.drewN nq) W->W.cell? ⟨bw,ow+2,none⟩=some (.string TX)):=hU (fun W h=>CW.out W (e7.next h))
 replace X3:=hU (X3.out.next e7);replace KI:=hU (KI.out.ext e7);replace K8H:=hU (K8H.out.ext e7);replace HN:=hU (HN.out.ext e7);replace WR:=hU (WR.out.ext e7)
 clear CW cw ri fi e7 hp1 hp3 hbw
 generalize w6.drewN nq=w7 at *
 obtain⟨wh,rfl⟩:∃ k:Nat,y1=(k:Int):=⟨y1.toNat,by omega⟩
 obtain⟨part,hpart⟩:∃ p,p=if wh=1 then 0 else pt:=⟨_,rfl⟩
 have HPT:=hU hpart
 have hwh:wh<=1:=by omega
 clear hpart
 obtain⟨ri,fi⟩:=KI.out.rules
 go_upto_region 12 with fail
 go_cut [59] from 58 to 59 (fun u wx=>u=.bool (decide (wh=1))/\w7=wx)
 case first=>
  by_cases hw1:wh=1
  · subst hw1
    go_wp2_with fail
    go_meet
    case rel=>exact⟨by first|rfl|(simp;done),rfl⟩
  · obtain rfl:wh=0:=by omega
    go_wp2_with fail
    go_meet
    case rel=>exact⟨by first|rfl|(simp;done),rfl⟩
 case rest=>
 obtain⟨rfl,rfl⟩:=hcut
 go_upto_if 59 with fail
 go_cut [11] (fun u wx=>u=.int .i64 (part:Int)/\w7=wx)
 case first=>
  by_cases hw1:wh=1
  · have E:=hU (show part=0 by rw[HPT.out,if_pos hw1])
    have d1:decide (wh=1)=true:=decide_eq_true hw1
    rw[d1]
    clear hw1 d1
    go_wp2_with fail
    go_meet
    case rel=>exact⟨by rw[E.out];rfl,rfl⟩
  · have E:=hU (show part=pt by rw[HPT.out,if_neg hw1])
    have d1:decide (wh=1)=false:=decide_eq_false hw1
    rw[d1]
    clear hw1 d1
    go_wp2_with fail
    go_meet
    case rel=>exact⟨by rw[E.out],rfl⟩
 case rest=>
 obtain⟨rfl,rfl⟩:=hcut
 obtain⟨ag,rfl⟩:∃ k:Nat,y3=(k:Int):=⟨y3.toNat,by omega⟩
 obtain⟨BB,hBB⟩:∃ BB:Qad,BB=(if wh=1\/part=TX.size then b' else b):=⟨_,rfl⟩
 have hpp:part<=TX.size:=by rw[HPT.out];split <;> omega
 have hp1:wh=1->part=0:=fun h=>by rw[HPT.out,if_pos h]
 have AD:Hid ((BB.width=b.width/\Qar BB=true)/\∀(W:World),Ext w7 W->Calls Tryz.prog 11 #[.agg M.toArray,.slice (some ⟨bw,ow,none⟩) 1 vc,.int .i64 (wh:Int),.int .i64 (part:Int),.int .i64 (ag:Int)] W fun e w'=>Qyn BB W e w'):=by
  have st:∀(W:World),Ext w7 W->(BB.width=b.width/\Qar BB=true)/\Calls Tryz.prog 11 #[.agg M.toArray,.slice (some ⟨bw,ow,none⟩) 1 vc,.int .i64 (wh:Int),.int .i64 (part:Int),.int .i64 (ag:Int)] W fun e w'=>Qyn BB W e w':=fun W h=>by
   obtain⟨B,a1,a2,a3,a4⟩:=Qvu D.out M (some ⟨bw,ow,none⟩) vc wh part ag W (Qum (HV.out.ext (X3.out.next h)).rd) HX13.out hvc (WR.out.ext h).reads hwh (by rw[<-HTX.out];exact hpp) hp1 (by omega)
   rw[<-HTX.out,<-hBB] at a3
   subst a3
   exact⟨⟨a1,a2⟩,a4⟩
  exact hU ⟨(st w7 (Below.refl _ _)).1,fun W h=>(st W h).2⟩
 have HBB:=hU hBB
 have K37:=hU (K3H.out.ext X3.out)
 have y3c:Hid (∀ W:World,Ext w7 W->W.cell? ⟨qi,2,none⟩=some (.int .i64 (ag:Int))):=hU (fun W h=>(KI.out.ext h).cell 2)
 clear hBB hpp hp1 ri fi HPT
 go_upto_region 14 with fail
 go_cut [13,14,15] (fun o n u wx=>∃(g13 g14 q c:Nat) (N:List Value) (cur:Array Value),o=.pointer (some ⟨g13,0,none⟩)/\n=.pointer (some ⟨g14,0,none⟩)/\u=.int .i64 0/\Blk wx g13 37 N.toArray/\Blk wx g14 52 #[.slice (some ⟨q,0,none⟩) 3 c]/\Blk wx q 9 cur/\cur.toList.take 3=(Qcl BB).flatMap sone/\(3<=c/\c<=maxLen)/\BVal w7.heap.size BB N wx/\Ext w7 wx)
 case first=>
  refine wp_region_held_drew (S:=fun w'=>Ext w7 w') (by kernel_rfl) (Below.refl _ _).drew (fun hH=>?_)
  generalize w7.drew=wd at *
  have E14:=hU hH
  refine Qah 0 (.agg M.toArray) (some 61) rfl rfl (by kernel_rfl) (yieldsIf_load_mid (by rfl) 37 _ rfl g3 0 rfl M _ (fun w' h=>Blk.range (K37.out.ext h)) Tryz.underlying37 rfl (by rw[HX13.out];kernel_rfl)) hH ?ra0
  try simp only[zB]
  refine Qah 1 (.slice (some ⟨bw,ow,none⟩) 1 vc) (some 62) rfl rfl (by kernel_rfl) (Or.inl ⟨by rfl,?ya1⟩) hH ?ra1
  case ya1=>intro w' hS';have yc:=y3c.out _ hS';go_simp;try with_reducible rfl
  try simp only[zA]
  refine Qah 2 (.int .i64 (wh:Int)) (some 63) rfl rfl (by kernel_rfl) (Or.inl ⟨by rfl,?ya2⟩) hH ?ra2
  case ya2=>intro w' hS';have yc:=y3c.out _ hS';go_simp;try with_reducible rfl
  try simp only[zA]
  refine Qah 3 (.int .i64 (part:Int)) (some 64) rfl rfl (by kernel_rfl) (Or.inl ⟨by rfl,?ya3⟩) hH ?ra3
  case ya3=>intro w' hS';have yc:=y3c.out _ hS';go_simp;try with_reducible rfl
  try simp only[zA]
  refine Qah 4 (.slice (some ⟨qi,0,none⟩) 3 3) (some 65) rfl rfl (by kernel_rfl) (Or.inl ⟨by rfl,?ya4⟩) hH ?ra4
  case ya4=>intro w' hS';have yc:=y3c.out _ hS';go_simp;try with_reducible rfl
  try simp only[zA]
  refine tk 5 (.pointer (some ⟨qi,2,none⟩)) (some 66) hH ?_
  try simp only[zA]
  refine Qah 6 (.int .i64 (ag:Int)) (some 67) rfl rfl (by kernel_rfl) (Or.inl ⟨by rfl,?ya6⟩) hH ?ra6
  case ya6=>intro w' hS';have yc:=y3c.out _ hS';go_simp;try with_reducible rfl
  try simp only[zA]
  refine threeH 7 12 13 (oi:=_) (oj:=_) (ok:=_) (some 68) (some 13) (some 14) (by kernel_rfl) rfl rfl rfl rfl rfl rfl rfl rfl rfl (fun K' hK=>?_) (fun K' hK=>?_) (fun K' hK=>?_)
  · skip
    refine⟨?_⟩
    rw[if_pos (by rfl)]
    go_simp
    refine(AD.out.2 _ hH).mono ?_
    rintro e wA ⟨N,q,c,cur,rfl,hn,kq,hcu,hqq,h1,hcb⟩
    have CN:=hU (hn.low hH.size);have CQ:=hU kq;have HCU:=hU hcu;have HCB:=hU hcb
    refine hK.out _ _ ⟨_,rfl⟩ (hH.next h1) (fun hH2=>?_)
    clear hK K' hH h1 hn kq hcu hqq hcb
    have hH:=hH2
    clear hH2
    try simp only[zB]
    refine Qah 8 (.tuple #[.agg N.toArray,.agg #[.slice (some ⟨q,0,none⟩) 3 c],.int .i64 0]) (some 60) rfl rfl (by kernel_rfl) (Or.inl ⟨by rfl,?yaa1⟩) hH ?raa1
    case yaa1=>intro w' hS';have yc:=y3c.out _ hS';go_simp;try with_reducible rfl
    try simp only[zA]
    refine Qah 9 (.agg N.toArray) (some 69) rfl rfl (by kernel_rfl) (Or.inl ⟨by rfl,?yaa2⟩) hH ?raa2
    case yaa2=>intro w' hS';have yc:=y3c.out _ hS';go_simp;try with_reducible rfl
    try simp only[zA]
    refine Qah 10 (.agg #[.slice (some ⟨q,0,none⟩) 3 c]) (some 70) rfl rfl (by kernel_rfl) (Or.inl ⟨by rfl,?yaa3⟩) hH ?raa3
    case yaa3=>intro w' hS';have yc:=y3c.out _ hS';go_simp;try with_reducible rfl
    try simp only[zA]
    refine Qah 11 (.int .i64 0) (some 71) rfl rfl (by kernel_rfl) (Or.inl ⟨by rfl,?yaa4⟩) hH ?raa4
    case yaa4=>intro w' hS';have yc:=y3c.out _ hS';go_simp;try with_reducible rfl
    try simp only[zA]
    refine twoH 12 13 (oi:=_) (oj:=_) (some 13) (some 14) (by kernel_rfl) rfl rfl rfl rfl rfl rfl (fun K' hK=>?_) (fun K' hK=>?_)
    · skip
      refine⟨?_⟩
      rw[if_pos (by rfl)]
      go_simp
      have h1:=Ext.new (Below.refl wA.heap.size wA) (.cells #[.int .i64 0,.slice none 0 0,.slice none 0 0,.slice none 0 0,.int .i64 0,.slice none 0 0,.int .i64 0,.slice none 0 0,.int .i64 0,.int .i64 0,.string ⟨#[]⟩,.int .i64 0,.string ⟨#[]⟩] 37)
      have K13:=hU (Blk.new wA 37 #[.int .i64 0,.slice none 0 0,.slice none 0 0,.slice none 0 0,.int .i64 0,.slice none 0 0,.int .i64 0,.slice none 0 0,.int .i64 0,.int .i64 0,.string ⟨#[]⟩,.int .i64 0,.string ⟨#[]⟩])
      have G13:=hU hH.size
      replace CN:=hU (CN.out.ext h1)
      replace CQ:=hU (CQ.out.ext h1)
      refine hK.out _ _ ⟨_,rfl⟩ (hH.next h1) (fun hH2=>?_)
      clear hK K' hH h1
      have hH:=hH2
      clear hH2
      try simp only[zB]
      generalize hg:wA.heap.size=g13 at *
      generalize wA.alloc (.cells #[.int .i64 0,.slice none 0 0,.slice none 0 0,.slice none 0 0,.int .i64 0,.slice none 0 0,.int .i64 0,.slice none 0 0,.int .i64 0,.int .i64 0,.string ⟨#[]⟩,.int .i64 0,.string ⟨#[]⟩] 37)=wB at *
      clear hg
      refine oneH 13 (oi:=_) (some 14) (by kernel_rfl) rfl rfl rfl (fun K' hK=>?_)
      refine⟨?_⟩
      rw[if_pos (by rfl)]
      go_simp
      have h1:=Ext.new (Below.refl wB.heap.size wB) (.cells #[.slice none 0 0] 52)
      have K14:=hU (Blk.new wB 52 #[.slice none 0 0])
      have G14:=hU hH.size
      replace CN:=hU (CN.out.ext h1)
      replace CQ:=hU (CQ.out.ext h1)
      replace K13:=hU (K13.out.ext h1)
      refine hK.out _ _ ⟨_,rfl⟩ (hH.next h1) (fun hH2=>?_)
      clear hK K' hH h1
      have hH:=hH2
      clear hH2
      try simp only[zB]
      generalize hg:wB.heap.size=g14 at *
      generalize wB.alloc (.cells #[.slice none 0 0] 52)=wC at *
      clear hg
      have NE1:=hU (Qex CQ.out K13.out (by decide));have NE2:=hU (Qex CQ.out K14.out (by decide));have NE3:=hU (Qex K13.out K14.out (by decide))
      have N13:=hU CN.out.len;have N1:=hU CN.out.one
      refine oneH 14 (oi:=_) none (by kernel_rfl) rfl rfl rfl (fun K' hK=>?_)
      refine⟨?_⟩;rw[if_pos (by rfl)]
      refine Qao 37 _ _ (by rfl) (by rfl) g13 0 N (by rfl) (by rfl) (by rw[N13.out];exact K13.out.there 0 13 (by simp)) (by rw[N13.out];kernel_rfl) N1.out ?_
      have Z13:=hU (Qas K13.out N (by rw[N13.out];rfl));have Z14:=hU (K14.out.farCells (g':=g13) (Ne.symm NE3.out) N 0);have ZQ:=hU (CQ.out.farCells (g':=g13) NE1.out N 0);have ZN:=hU (CN.out.putB K13.out N 0)
      have h1:Ext w7 (wC.setCells g13 0 N):=Qaa (W:=w7) (g:=g13) G13.out N 0 _ hH
      refine hK.out _ _ ⟨undef,rfl⟩ (h1) (fun hH2=>?_)
      clear hK K' hH
      have hH:=hH2
      clear hH2
      try simp only[zB]
      generalize wC.setCells g13 0 N=w8 at *
      refine oneH 15 (oi:=_) none (by kernel_rfl) rfl rfl rfl (fun K' hK=>?_)
      refine⟨?_⟩;rw[if_pos (by rfl)]
      refine Qao 52 _ _ (by rfl) (by rfl) g14 0 [.slice (some ⟨q,0,none⟩) 3 c] (by rfl) (by rfl) (Z14.out.there 0 1 (by simp)) (by kernel_rfl) (by rfl) ?_
      have Y13:=hU (Z13.out.farCells (g':=g14) NE3.out [.slice (some ⟨q,0,none⟩) 3 c] 0);have Y14:=hU (Z14.out.put 0 [.slice (some ⟨q,0,none⟩) 3 c] #[.slice (some ⟨q,0,none⟩) 3 c] (by simp) rfl);have YQ:=hU (ZQ.out.farCells (g':=g14) NE2.out [.slice (some ⟨q,0,none⟩) 3 c] 0);have YN:=hU (Qk4 ZN.out Z14.out [.slice (some ⟨q,0,none⟩) 3 c] 0)
      have h1:Ext w7 (w8.setCells g14 0 [.slice (some ⟨q,0,none⟩) 3 c]):=Qaa (W:=w7) (g:=g14) G14.out [.slice (some ⟨q,0,none⟩) 3 c] 0 _ hH
      refine hK.out _ _ ⟨undef,rfl⟩ (h1) (fun hH2=>?_)
      clear hK K' hH
      have hH:=hH2
      clear hH2
      try simp only[zB]
      generalize w8.setCells g14 0 [.slice (some ⟨q,0,none⟩) 3 c]=w9 at *
      refine Qah 16 (.int .i64 0) (some 15) rfl rfl (by kernel_rfl) (Or.inl ⟨by rfl,?yaad1⟩) hH ?raad1
      case yaad1=>intro w' hS';have yc:=y3c.out _ hS';go_simp;try with_reducible rfl
      try simp only[zA]
      have h1:=hH
      clear hH
      refine wpAnyH_done (by kernel_rfl) ?_ _
      try go_wp2_with fail
      go_meet
      case rel=>exact⟨g13,g14,q,c,N,cur,rfl,rfl,rfl,Y13.out,Y14.out,YQ.out,HCU.out,HCB.out,YN.out,h1⟩
    · skip
      refine⟨?_⟩
      rw[if_pos (by rfl)]
      go_simp
      have h1:=Ext.new (Below.refl wA.heap.size wA) (.cells #[.slice none 0 0] 52)
      have K14:=hU (Blk.new wA 52 #[.slice none 0 0])
      have G14:=hU hH.size
      replace CN:=hU (CN.out.ext h1)
      replace CQ:=hU (CQ.out.ext h1)
      refine hK.out _ _ ⟨_,rfl⟩ (hH.next h1) (fun hH2=>?_)
      clear hK K' hH h1
      have hH:=hH2
      clear hH2
      try simp only[zB]
      generalize hg:wA.heap.size=g14 at *
      generalize wA.alloc (.cells #[.slice none 0 0] 52)=wB at *
      clear hg
      refine oneH 12 (oi:=_) (some 13) (by kernel_rfl) rfl rfl rfl (fun K' hK=>?_)
      refine⟨?_⟩
      rw[if_pos (by rfl)]
      go_simp
      have h1:=Ext.new (Below.refl wB.heap.size wB) (.cells #[.int .i64 0,.slice none 0 0,.slice none 0 0,.slice none 0 0,.int .i64 0,.slice none 0 0,.int .i64 0,.slice none 0 0,.int .i64 0,.int .i64 0,.string ⟨#[]⟩,.int .i64 0,.string ⟨#[]⟩] 37)
      have K13:=hU (Blk.new wB 37 #[.int .i64 0,.slice none 0 0,.slice none 0 0,.slice none 0 0,.int .i64 0,.slice none 0 0,.int .i64 0,.slice none 0 0,.int .i64 0,.int .i64 0,.string ⟨#[]⟩,.int .i64 0,.string ⟨#[]⟩])
      have G13:=hU hH.size
      replace CN:=hU (CN.out.ext h1)
      replace CQ:=hU (CQ.out.ext h1)
      replace K14:=hU (K14.out.ext h1)
      refine hK.out _ _ ⟨_,rfl⟩ (hH.next h1) (fun hH2=>?_)
      clear hK K' hH h1
      have hH:=hH2
      clear hH2
      try simp only[zB]
      generalize hg:wB.heap.size=g13 at *
      generalize wB.alloc (.cells #[.int .i64 0,.slice none 0 0,.slice none 0 0,.slice none 0 0,.int .i64 0,.slice none 0 0,.int .i64 0,.slice none 0 0,.int .i64 0,.int .i64 0,.string ⟨#[]⟩,.int .i64 0,.string ⟨#[]⟩] 37)=wC at *
      clear hg
      have NE1:=hU (Qex CQ.out K13.out (by decide));have NE2:=hU (Qex CQ.out K14.out (by decide));have NE3:=hU (Qex K13.out K14.out (by decide))
      have N13:=hU CN.out.len;have N1:=hU CN.out.one
      refine oneH 14 (oi:=_) none (by kernel_rfl) rfl rfl rfl (fun K' hK=>?_)
      refine⟨?_⟩;rw[if_pos (by rfl)]
      refine Qao 37 _ _ (by rfl) (by rfl) g13 0 N (by rfl) (by rfl) (by rw[N13.out];exact K13.out.there 0 13 (by simp)) (by rw[N13.out];kernel_rfl) N1.out ?_
      have Z13:=hU (Qas K13.out N (by rw[N13.out];rfl));have Z14:=hU (K14.out.farCells (g':=g13) (Ne.symm NE3.out) N 0);have ZQ:=hU (CQ.out.farCells (g':=g13) NE1.out N 0);have ZN:=hU (CN.out.putB K13.out N 0)
      have h1:Ext w7 (wC.setCells g13 0 N):=Qaa (W:=w7) (g:=g13) G13.out N 0 _ hH
      refine hK.out _ _ ⟨undef,rfl⟩ (h1) (fun hH2=>?_)
      clear hK K' hH
      have hH:=hH2
      clear hH2
      try simp only[zB]
      generalize wC.setCells g13 0 N=w8 at *
      refine oneH 15 (oi:=_) none (by kernel_rfl) rfl rfl rfl (fun K' hK=>?_)
      refine⟨?_⟩;rw[if_pos (by rfl)]
      refine Qao 52 _ _ (by rfl) (by rfl) g14 0 [.slice (some ⟨q,0,none⟩) 3 c] (by rfl) (by rfl) (Z14.out.there 0 1 (by simp)) (by kernel_rfl) (by rfl) ?_
      have Y13:=hU (Z13.out.farCells (g':=g14) NE3.out [.slice (some ⟨q,0,none⟩) 3 c] 0);have Y14:=hU (Z14.out.put 0 [.slice (some ⟨q,0,none⟩) 3 c] #[.slice (some ⟨q,0,none⟩) 3 c] (by simp) rfl);have YQ:=hU (ZQ.out.farCells (g':=g14) NE2.out [.slice (some ⟨q,0,none⟩) 3 c] 0);have YN:=hU (Qk4 ZN.out Z14.out [.slice (some ⟨q,0,none⟩) 3 c] 0)
      have h1:Ext w7 (w8.setCells g14 0 [.slice (some ⟨q,0,none⟩) 3 c]):=Qaa (W:=w7) (g:=g14) G14.out [.slice (some ⟨q,0,none⟩) 3 c] 0 _ hH
      refine hK.out _ _ ⟨undef,rfl⟩ (h1) (fun hH2=>?_)
      clear hK K' hH
      have hH:=hH2
      clear hH2
      try simp only[zB]
      generalize w8.setCells g14 0 [.slice (some ⟨q,0,none⟩) 3 c]=w9 at *
      refine Qah 16 (.int .i64 0) (some 15) rfl rfl (by kernel_rfl) (Or.inl ⟨by rfl,?yaae1⟩) hH ?raae1
      case yaae1=>intro w' hS';have yc:=y3c.out _ hS';go_simp;try with_reducible rfl
      try simp only[zA]
      have h1:=hH
      clear hH
      refine wpAnyH_done (by kernel_rfl) ?_ _
      try go_wp2_with fail
      go_meet
      case rel=>exact⟨g13,g14,q,c,N,cur,rfl,rfl,rfl,Y13.out,Y14.out,YQ.out,HCU.out,HCB.out,YN.out,h1⟩
  · skip
    refine⟨?_⟩
    rw[if_pos (by rfl)]
    go_simp
    have h1:=Ext.new (Below.refl wd.heap.size wd) (.cells #[.int .i64 0,.slice none 0 0,.slice none 0 0,.slice none 0 0,.int .i64 0,.slice none 0 0,.int .i64 0,.slice none 0 0,.int .i64 0,.int .i64 0,.string ⟨#[]⟩,.int .i64 0,.string ⟨#[]⟩] 37)
    have K13:=hU (Blk.new wd 37 #[.int .i64 0,.slice none 0 0,.slice none 0 0,.slice none 0 0,.int .i64 0,.slice none 0 0,.int .i64 0,.slice none 0 0,.int .i64 0,.int .i64 0,.string ⟨#[]⟩,.int .i64 0,.string ⟨#[]⟩])
    have G13:=hU hH.size
    refine hK.out _ _ ⟨_,rfl⟩ (hH.next h1) (fun hH2=>?_)
    clear hK K' hH h1
    have hH:=hH2
    clear hH2
    try simp only[zB]
    generalize hg:wd.heap.size=g13 at *
    generalize wd.alloc (.cells #[.int .i64 0,.slice none 0 0,.slice none 0 0,.slice none 0 0,.int .i64 0,.slice none 0 0,.int .i64 0,.slice none 0 0,.int .i64 0,.int .i64 0,.string ⟨#[]⟩,.int .i64 0,.string ⟨#[]⟩] 37)=wA at *
    clear hg
    refine twoH 7 13 (oi:=_) (oj:=_) (some 68) (some 14) (by kernel_rfl) rfl rfl rfl rfl rfl rfl (fun K' hK=>?_) (fun K' hK=>?_)
    · skip
      refine⟨?_⟩
      rw[if_pos (by rfl)]
      go_simp
      refine(AD.out.2 _ hH).mono ?_
      rintro e wB ⟨N,q,c,cur,rfl,hn,kq,hcu,hqq,h1,hcb⟩
      have CN:=hU (hn.low hH.size);have CQ:=hU kq;have HCU:=hU hcu;have HCB:=hU hcb
      replace K13:=hU (K13.out.ext h1)
      refine hK.out _ _ ⟨_,rfl⟩ (hH.next h1) (fun hH2=>?_)
      clear hK K' hH h1 hn kq hcu hqq hcb
      have hH:=hH2
      clear hH2
      try simp only[zB]
      refine Qah 8 (.tuple #[.agg N.toArray,.agg #[.slice (some ⟨q,0,none⟩) 3 c],.int .i64 0]) (some 60) rfl rfl (by kernel_rfl) (Or.inl ⟨by rfl,?yabg1⟩) hH ?rabg1
      case yabg1=>intro w' hS';have yc:=y3c.out _ hS';go_simp;try with_reducible rfl
      try simp only[zA]
      refine Qah 9 (.agg N.toArray) (some 69) rfl rfl (by kernel_rfl) (Or.inl ⟨by rfl,?yabg2⟩) hH ?rabg2
      case yabg2=>intro w' hS';have yc:=y3c.out _ hS';go_simp;try with_reducible rfl
      try simp only[zA]
      refine Qah 10 (.agg #[.slice (some ⟨q,0,none⟩) 3 c]) (some 70) rfl rfl (by kernel_rfl) (Or.inl ⟨by rfl,?yabg3⟩) hH ?rabg3
      case yabg3=>intro w' hS';have yc:=y3c.out _ hS';go_simp;try with_reducible rfl
      try simp only[zA]
      refine Qah 11 (.int .i64 0) (some 71) rfl rfl (by kernel_rfl) (Or.inl ⟨by rfl,?yabg4⟩) hH ?rabg4
      case yabg4=>intro w' hS';have yc:=y3c.out _ hS';go_simp;try with_reducible rfl
      try simp only[zA]
      refine oneH 13 (oi:=_) (some 14) (by kernel_rfl) rfl rfl rfl (fun K' hK=>?_)
      refine⟨?_⟩
      rw[if_pos (by rfl)]
      go_simp
      have h1:=Ext.new (Below.refl wB.heap.size wB) (.cells #[.slice none 0 0] 52)
      have K14:=hU (Blk.new wB 52 #[.slice none 0 0])
      have G14:=hU hH.size
      replace K13:=hU (K13.out.ext h1)
      replace CN:=hU (CN.out.ext h1)
      replace CQ:=hU (CQ.out.ext h1)
      refine hK.out _ _ ⟨_,rfl⟩ (hH.next h1) (fun hH2=>?_)
      clear hK K' hH h1
      have hH:=hH2
      clear hH2
      try simp only[zB]
      generalize hg:wB.heap.size=g14 at *
      generalize wB.alloc (.cells #[.slice none 0 0] 52)=wC at *
      clear hg
      have NE1:=hU (Qex CQ.out K13.out (by decide));have NE2:=hU (Qex CQ.out K14.out (by decide));have NE3:=hU (Qex K13.out K14.out (by decide))
      have N13:=hU CN.out.len;have N1:=hU CN.out.one
      refine oneH 14 (oi:=_) none (by kernel_rfl) rfl rfl rfl (fun K' hK=>?_)
      refine⟨?_⟩;rw[if_pos (by rfl)]
      refine Qao 37 _ _ (by rfl) (by rfl) g13 0 N (by rfl) (by rfl) (by rw[N13.out];exact K13.out.there 0 13 (by simp)) (by rw[N13.out];kernel_rfl) N1.out ?_
      have Z13:=hU (Qas K13.out N (by rw[N13.out];rfl));have Z14:=hU (K14.out.farCells (g':=g13) (Ne.symm NE3.out) N 0);have ZQ:=hU (CQ.out.farCells (g':=g13) NE1.out N 0);have ZN:=hU (CN.out.putB K13.out N 0)
      have h1:Ext w7 (wC.setCells g13 0 N):=Qaa (W:=w7) (g:=g13) G13.out N 0 _ hH
      refine hK.out _ _ ⟨undef,rfl⟩ (h1) (fun hH2=>?_)
      clear hK K' hH
      have hH:=hH2
      clear hH2
      try simp only[zB]
      generalize wC.setCells g13 0 N=w8 at *
      refine oneH 15 (oi:=_) none (by kernel_rfl) rfl rfl rfl (fun K' hK=>?_)
      refine⟨?_⟩;rw[if_pos (by rfl)]
      refine Qao 52 _ _ (by rfl) (by rfl) g14 0 [.slice (some ⟨q,0,none⟩) 3 c] (by rfl) (by rfl) (Z14.out.there 0 1 (by simp)) (by kernel_rfl) (by rfl) ?_
      have Y13:=hU (Z13.out.farCells (g':=g14) NE3.out [.slice (some ⟨q,0,none⟩) 3 c] 0);have Y14:=hU (Z14.out.put 0 [.slice (some ⟨q,0,none⟩) 3 c] #[.slice (some ⟨q,0,none⟩) 3 c] (by simp) rfl);have YQ:=hU (ZQ.out.farCells (g':=g14) NE2.out [.slice (some ⟨q,0,none⟩) 3 c] 0);have YN:=hU (Qk4 ZN.out Z14.out [.slice (some ⟨q,0,none⟩) 3 c] 0)
      have h1:Ext w7 (w8.setCells g14 0 [.slice (some ⟨q,0,none⟩) 3 c]):=Qaa (W:=w7) (g:=g14) G14.out [.slice (some ⟨q,0,none⟩) 3 c] 0 _ hH
      refine hK.out _ _ ⟨undef,rfl⟩ (h1) (fun hH2=>?_)
      clear hK K' hH
      have hH:=hH2
      clear hH2
      try simp only[zB]
      generalize w8.setCells g14 0 [.slice (some ⟨q,0,none⟩) 3 c]=w9 at *
      refine Qah 16 (.int .i64 0) (some 15) rfl rfl (by kernel_rfl) (Or.inl ⟨by rfl,?yabg5⟩) hH ?rabg5
      case yabg5=>intro w' hS';have yc:=y3c.out _ hS';go_simp;try with_reducible rfl
      try simp only[zA]
      have h1:=hH
      clear hH
      refine wpAnyH_done (by kernel_rfl) ?_ _
      try go_wp2_with fail
      go_meet
      case rel=>exact⟨g13,g14,q,c,N,cur,rfl,rfl,rfl,Y13.out,Y14.out,YQ.out,HCU.out,HCB.out,YN.out,h1⟩
    · skip
      refine⟨?_⟩
      rw[if_pos (by rfl)]
      go_simp
      have h1:=Ext.new (Below.refl wA.heap.size wA) (.cells #[.slice none 0 0] 52)
      have K14:=hU (Blk.new wA 52 #[.slice none 0 0])
      have G14:=hU hH.size
      replace K13:=hU (K13.out.ext h1)
      refine hK.out _ _ ⟨_,rfl⟩ (hH.next h1) (fun hH2=>?_)
      clear hK K' hH h1
      have hH:=hH2
      clear hH2
      try simp only[zB]
      generalize hg:wA.heap.size=g14 at *
      generalize wA.alloc (.cells #[.slice none 0 0] 52)=wB at *
      clear hg
      refine oneH 7 (oi:=_) (some 68) (by kernel_rfl) rfl rfl rfl (fun K' hK=>?_)
      refine⟨?_⟩
      rw[if_pos (by rfl)]
      go_simp
      refine(AD.out.2 _ hH).mono ?_
      rintro e wC ⟨N,q,c,cur,rfl,hn,kq,hcu,hqq,h1,hcb⟩
      have CN:=hU (hn.low hH.size);have CQ:=hU kq;have HCU:=hU hcu;have HCB:=hU hcb
      replace K13:=hU (K13.out.ext h1)
      replace K14:=hU (K14.out.ext h1)
      refine hK.out _ _ ⟨_,rfl⟩ (hH.next h1) (fun hH2=>?_)
      clear hK K' hH h1 hn kq hcu hqq hcb
      have hH:=hH2
      clear hH2
      try simp only[zB]
      refine Qah 8 (.tuple #[.agg N.toArray,.agg #[.slice (some ⟨q,0,none⟩) 3 c],.int .i64 0]) (some 60) rfl rfl (by kernel_rfl) (Or.inl ⟨by rfl,?yabh1⟩) hH ?rabh1
      case yabh1=>intro w' hS';have yc:=y3c.out _ hS';go_simp;try with_reducible rfl
      try simp only[zA]
      refine Qah 9 (.agg N.toArray) (some 69) rfl rfl (by kernel_rfl) (Or.inl ⟨by rfl,?yabh2⟩) hH ?rabh2
      case yabh2=>intro w' hS';have yc:=y3c.out _ hS';go_simp;try with_reducible rfl
      try simp only[zA]
      refine Qah 10 (.agg #[.slice (some ⟨q,0,none⟩) 3 c]) (some 70) rfl rfl (by kernel_rfl) (Or.inl ⟨by rfl,?yabh3⟩) hH ?rabh3
      case yabh3=>intro w' hS';have yc:=y3c.out _ hS';go_simp;try with_reducible rfl
      try simp only[zA]
      refine Qah 11 (.int .i64 0) (some 71) rfl rfl (by kernel_rfl) (Or.inl ⟨by rfl,?yabh4⟩) hH ?rabh4
      case yabh4=>intro w' hS';have yc:=y3c.out _ hS';go_simp;try with_reducible rfl
      try simp only[zA]
      have NE1:=hU (Qex CQ.out K13.out (by decide));have NE2:=hU (Qex CQ.out K14.out (by decide));have NE3:=hU (Qex K13.out K14.out (by decide))
      have N13:=hU CN.out.len;have N1:=hU CN.out.one
      refine oneH 14 (oi:=_) none (by kernel_rfl) rfl rfl rfl (fun K' hK=>?_)
      refine⟨?_⟩;rw[if_pos (by rfl)]
      refine Qao 37 _ _ (by rfl) (by rfl) g13 0 N (by rfl) (by rfl) (by rw[N13.out];exact K13.out.there 0 13 (by simp)) (by rw[N13.out];kernel_rfl) N1.out ?_
      have Z13:=hU (Qas K13.out N (by rw[N13.out];rfl));have Z14:=hU (K14.out.farCells (g':=g13) (Ne.symm NE3.out) N 0);have ZQ:=hU (CQ.out.farCells (g':=g13) NE1.out N 0);have ZN:=hU (CN.out.putB K13.out N 0)
      have h1:Ext w7 (wC.setCells g13 0 N):=Qaa (W:=w7) (g:=g13) G13.out N 0 _ hH
      refine hK.out _ _ ⟨undef,rfl⟩ (h1) (fun hH2=>?_)
      clear hK K' hH
      have hH:=hH2
      clear hH2
      try simp only[zB]
      generalize wC.setCells g13 0 N=w8 at *
      refine oneH 15 (oi:=_) none (by kernel_rfl) rfl rfl rfl (fun K' hK=>?_)
      refine⟨?_⟩;rw[if_pos (by rfl)]
      refine Qao 52 _ _ (by rfl) (by rfl) g14 0 [.slice (some ⟨q,0,none⟩) 3 c] (by rfl) (by rfl) (Z14.out.there 0 1 (by simp)) (by kernel_rfl) (by rfl) ?_
      have Y13:=hU (Z13.out.farCells (g':=g14) NE3.out [.slice (some ⟨q,0,none⟩) 3 c] 0);have Y14:=hU (Z14.out.put 0 [.slice (some ⟨q,0,none⟩) 3 c] #[.slice (some ⟨q,0,none⟩) 3 c] (by simp) rfl);have YQ:=hU (ZQ.out.farCells (g':=g14) NE2.out [.slice (some ⟨q,0,none⟩) 3 c] 0);have YN:=hU (Qk4 ZN.out Z14.out [.slice (some ⟨q,0,none⟩) 3 c] 0)
      have h1:Ext w7 (w8.setCells g14 0 [.slice (some ⟨q,0,none⟩) 3 c]):=Qaa (W:=w7) (g:=g14) G14.out [.slice (some ⟨q,0,none⟩) 3 c] 0 _ hH
      refine hK.out _ _ ⟨undef,rfl⟩ (h1) (fun hH2=>?_)
      clear hK K' hH
      have hH:=hH2
      clear hH2
      try simp only[zB]
      generalize w8.setCells g14 0 [.slice (some ⟨q,0,none⟩) 3 c]=w9 at *
      refine Qah 16 (.int .i64 0) (some 15) rfl rfl (by kernel_rfl) (Or.inl ⟨by rfl,?yabh5⟩) hH ?rabh5
      case yabh5=>intro w' hS';have yc:=y3c.out _ hS';go_simp;try with_reducible rfl
      try simp only[zA]
      have h1:=hH
      clear hH
      refine wpAnyH_done (by kernel_rfl) ?_ _
      try go_wp2_with fail
      go_meet
      case rel=>exact⟨g13,g14,q,c,N,cur,rfl,rfl,rfl,Y13.out,Y14.out,YQ.out,HCU.out,HCB.out,YN.out,h1⟩
  · skip
    refine⟨?_⟩
    rw[if_pos (by rfl)]
    go_simp
    have h1:=Ext.new (Below.refl wd.heap.size wd) (.cells #[.slice none 0 0] 52)
    have K14:=hU (Blk.new wd 52 #[.slice none 0 0])
    have G14:=hU hH.size
    refine hK.out _ _ ⟨_,rfl⟩ (hH.next h1) (fun hH2=>?_)
    clear hK K' hH h1
    have hH:=hH2
    clear hH2
    try simp only[zB]
    generalize hg:wd.heap.size=g14 at *
    generalize wd.alloc (.cells #[.slice none 0 0] 52)=wA at *
    clear hg
    refine twoH 7 12 (oi:=_) (oj:=_) (some 68) (some 13) (by kernel_rfl) rfl rfl rfl rfl rfl rfl (fun K' hK=>?_) (fun K' hK=>?_)
    · skip
      refine⟨?_⟩
      rw[if_pos (by rfl)]
      go_simp
      refine(AD.out.2 _ hH).mono ?_
      rintro e wB ⟨N,q,c,cur,rfl,hn,kq,hcu,hqq,h1,hcb⟩
      have CN:=hU (hn.low hH.size);have CQ:=hU kq;have HCU:=hU hcu;have HCB:=hU hcb
      replace K14:=hU (K14.out.ext h1)
      refine hK.out _ _ ⟨_,rfl⟩ (hH.next h1) (fun hH2=>?_)
      clear hK K' hH h1 hn kq hcu hqq hcb
      have hH:=hH2
      clear hH2
      try simp only[zB]
      refine Qah 8 (.tuple #[.agg N.toArray,.agg #[.slice (some ⟨q,0,none⟩) 3 c],.int .i64 0]) (some 60) rfl rfl (by kernel_rfl) (Or.inl ⟨by rfl,?yacj1⟩) hH ?racj1
      case yacj1=>intro w' hS';have yc:=y3c.out _ hS';go_simp;try with_reducible rfl
      try simp only[zA]
      refine Qah 9 (.agg N.toArray) (some 69) rfl rfl (by kernel_rfl) (Or.inl ⟨by rfl,?yacj2⟩) hH ?racj2
      case yacj2=>intro w' hS';have yc:=y3c.out _ hS';go_simp;try with_reducible rfl
      try simp only[zA]
      refine Qah 10 (.agg #[.slice (some ⟨q,0,none⟩) 3 c]) (some 70) rfl rfl (by kernel_rfl) (Or.inl ⟨by rfl,?yacj3⟩) hH ?racj3
      case yacj3=>intro w' hS';have yc:=y3c.out _ hS';go_simp;try with_reducible rfl
      try simp only[zA]
      refine Qah 11 (.int .i64 0) (some 71) rfl rfl (by kernel_rfl) (Or.inl ⟨by rfl,?yacj4⟩) hH ?racj4
      case yacj4=>intro w' hS';have yc:=y3c.out _ hS';go_simp;try with_reducible rfl
      try simp only[zA]
      refine oneH 12 (oi:=_) (some 13) (by kernel_rfl) rfl rfl rfl (fun K' hK=>?_)
      refine⟨?_⟩
      rw[if_pos (by rfl)]
      go_simp
      have h1:=Ext.new (Below.refl wB.heap.size wB) (.cells #[.int .i64 0,.slice none 0 0,.slice none 0 0,.slice none 0 0,.int .i64 0,.slice none 0 0,.int .i64 0,.slice none 0 0,.int .i64 0,.int .i64 0,.string ⟨#[]⟩,.int .i64 0,.string ⟨#[]⟩] 37)
      have K13:=hU (Blk.new wB 37 #[.int .i64 0,.slice none 0 0,.slice none 0 0,.slice none 0 0,.int .i64 0,.slice none 0 0,.int .i64 0,.slice none 0 0,.int .i64 0,.int .i64 0,.string ⟨#[]⟩,.int .i64 0,.string ⟨#[]⟩])
      have G13:=hU hH.size
      replace K14:=hU (K14.out.ext h1)
      replace CN:=hU (CN.out.ext h1)
      replace CQ:=hU (CQ.out.ext h1)
      refine hK.out _ _ ⟨_,rfl⟩ (hH.next h1) (fun hH2=>?_)
      clear hK K' hH h1
      have hH:=hH2
      clear hH2
      try simp only[zB]
      generalize hg:wB.heap.size=g13 at *
      generalize wB.alloc (.cells #[.int .i64 0,.slice none 0 0,.slice none 0 0,.slice none 0 0,.int .i64 0,.slice none 0 0,.int .i64 0,.slice none 0 0,.int .i64 0,.int .i64 0,.string ⟨#[]⟩,.int .i64 0,.string ⟨#[]⟩] 37)=wC at *
      clear hg
      have NE1:=hU (Qex CQ.out K13.out (by decide));have NE2:=hU (Qex CQ.out K14.out (by decide));have NE3:=hU (Qex K13.out K14.out (by decide))
      have N13:=hU CN.out.len;have N1:=hU CN.out.one
      refine oneH 14 (oi:=_) none (by kernel_rfl) rfl rfl rfl (fun K' hK=>?_)
      refine⟨?_⟩;rw[if_pos (by rfl)]
      refine Qao 37 _ _ (by rfl) (by rfl) g13 0 N (by rfl) (by rfl) (by rw[N13.out];exact K13.out.there 0 13 (by simp)) (by rw[N13.out];kernel_rfl) N1.out ?_
      have Z13:=hU (Qas K13.out N (by rw[N13.out];rfl));have Z14:=hU (K14.out.farCells (g':=g13) (Ne.symm NE3.out) N 0);have ZQ:=hU (CQ.out.farCells (g':=g13) NE1.out N 0);have ZN:=hU (CN.out.putB K13.out N 0)
      have h1:Ext w7 (wC.setCells g13 0 N):=Qaa (W:=w7) (g:=g13) G13.out N 0 _ hH
      refine hK.out _ _ ⟨undef,rfl⟩ (h1) (fun hH2=>?_)
      clear hK K' hH
      have hH:=hH2
      clear hH2
      try simp only[zB]
      generalize wC.setCells g13 0 N=w8 at *
      refine oneH 15 (oi:=_) none (by kernel_rfl) rfl rfl rfl (fun K' hK=>?_)
      refine⟨?_⟩;rw[if_pos (by rfl)]
      refine Qao 52 _ _ (by rfl) (by rfl) g14 0 [.slice (some ⟨q,0,none⟩) 3 c] (by rfl) (by rfl) (Z14.out.there 0 1 (by simp)) (by kernel_rfl) (by rfl) ?_
      have Y13:=hU (Z13.out.farCells (g':=g14) NE3.out [.slice (some ⟨q,0,none⟩) 3 c] 0);have Y14:=hU (Z14.out.put 0 [.slice (some ⟨q,0,none⟩) 3 c] #[.slice (some ⟨q,0,none⟩) 3 c] (by simp) rfl);have YQ:=hU (ZQ.out.farCells (g':=g14) NE2.out [.slice (some ⟨q,0,none⟩) 3 c] 0);have YN:=hU (Qk4 ZN.out Z14.out [.slice (some ⟨q,0,none⟩) 3 c] 0)
      have h1:Ext w7 (w8.setCells g14 0 [.slice (some ⟨q,0,none⟩) 3 c]):=Qaa (W:=w7) (g:=g14) G14.out [.slice (some ⟨q,0,none⟩) 3 c] 0 _ hH
      refine hK.out _ _ ⟨undef,rfl⟩ (h1) (fun hH2=>?_)
      clear hK K' hH
      have hH:=hH2
      clear hH2
      try simp only[zB]
      generalize w8.setCells g14 0 [.slice (some ⟨q,0,none⟩) 3 c]=w9 at *
      refine Qah 16 (.int .i64 0) (some 15) rfl rfl (by kernel_rfl) (Or.inl ⟨by rfl,?yacj5⟩) hH ?racj5
      case yacj5=>intro w' hS';have yc:=y3c.out _ hS';go_simp;try with_reducible rfl
      try simp only[zA]
      have h1:=hH
      clear hH
      refine wpAnyH_done (by kernel_rfl) ?_ _
      try go_wp2_with fail
      go_meet
      case rel=>exact⟨g13,g14,q,c,N,cur,rfl,rfl,rfl,Y13.out,Y14.out,YQ.out,HCU.out,HCB.out,YN.out,h1⟩
    · skip
      refine⟨?_⟩
      rw[if_pos (by rfl)]
      go_simp
      have h1:=Ext.new (Below.refl wA.heap.size wA) (.cells #[.int .i64 0,.slice none 0 0,.slice none 0 0,.slice none 0 0,.int .i64 0,.slice none 0 0,.int .i64 0,.slice none 0 0,.int .i64 0,.int .i64 0,.string ⟨#[]⟩,.int .i64 0,.string ⟨#[]⟩] 37)
      have K13:=hU (Blk.new wA 37 #[.int .i64 0,.slice none 0 0,.slice none 0 0,.slice none 0 0,.int .i64 0,.slice none 0 0,.int .i64 0,.slice none 0 0,.int .i64 0,.int .i64 0,.string ⟨#[]⟩,.int .i64 0,.string ⟨#[]⟩])
      have G13:=hU hH.size
      replace K14:=hU (K14.out.ext h1)
      refine hK.out _ _ ⟨_,rfl⟩ (hH.next h1) (fun hH2=>?_)
      clear hK K' hH h1
      have hH:=hH2
      clear hH2
      try simp only[zB]
      generalize hg:wA.heap.size=g13 at *
      generalize wA.alloc (.cells #[.int .i64 0,.slice none 0 0,.slice none 0 0,.slice none 0 0,.int .i64 0,.slice none 0 0,.int .i64 0,.slice none 0 0,.int .i64 0,.int .i64 0,.string ⟨#[]⟩,.int .i64 0,.string ⟨#[]⟩] 37)=wB at *
      clear hg
      refine oneH 7 (oi:=_) (some 68) (by kernel_rfl) rfl rfl rfl (fun K' hK=>?_)
      refine⟨?_⟩
      rw[if_pos (by rfl)]
      go_simp
      refine(AD.out.2 _ hH).mono ?_
      rintro e wC ⟨N,q,c,cur,rfl,hn,kq,hcu,hqq,h1,hcb⟩
      have CN:=hU (hn.low hH.size);have CQ:=hU kq;have HCU:=hU hcu;have HCB:=hU hcb
      replace K14:=hU (K14.out.ext h1)
      replace K13:=hU (K13.out.ext h1)
      refine hK.out _ _ ⟨_,rfl⟩ (hH.next h1) (fun hH2=>?_)
      clear hK K' hH h1 hn kq hcu hqq hcb
      have hH:=hH2
      clear hH2
      try simp only[zB]
      refine Qah 8 (.tuple #[.agg N.toArray,.agg #[.slice (some ⟨q,0,none⟩) 3 c],.int .i64 0]) (some 60) rfl rfl (by kernel_rfl) (Or.inl ⟨by rfl,?yack1⟩) hH ?rack1
      case yack1=>intro w' hS';have yc:=y3c.out _ hS';go_simp;try with_reducible rfl
      try simp only[zA]
      refine Qah 9 (.agg N.toArray) (some 69) rfl rfl (by kernel_rfl) (Or.inl ⟨by rfl,?yack2⟩) hH ?rack2
      case yack2=>intro w' hS';have yc:=y3c.out _ hS';go_simp;try with_reducible rfl
      try simp only[zA]
      refine Qah 10 (.agg #[.slice (some ⟨q,0,none⟩) 3 c]) (some 70) rfl rfl (by kernel_rfl) (Or.inl ⟨by rfl,?yack3⟩) hH ?rack3
      case yack3=>intro w' hS';have yc:=y3c.out _ hS';go_simp;try with_reducible rfl
      try simp only[zA]
      refine Qah 11 (.int .i64 0) (some 71) rfl rfl (by kernel_rfl) (Or.inl ⟨by rfl,?yack4⟩) hH ?rack4
      case yack4=>intro w' hS';have yc:=y3c.out _ hS';go_simp;try with_reducible rfl
      try simp only[zA]
      have NE1:=hU (Qex CQ.out K13.out (by decide));have NE2:=hU (Qex CQ.out K14.out (by decide));have NE3:=hU (Qex K13.out K14.out (by decide))
      have N13:=hU CN.out.len;have N1:=hU CN.out.one
      refine oneH 14 (oi:=_) none (by kernel_rfl) rfl rfl rfl (fun K' hK=>?_)
      refine⟨?_⟩;rw[if_pos (by rfl)]
      refine Qao 37 _ _ (by rfl) (by rfl) g13 0 N (by rfl) (by rfl) (by rw[N13.out];exact K13.out.there 0 13 (by simp)) (by rw[N13.out];kernel_rfl) N1.out ?_
      have Z13:=hU (Qas K13.out N (by rw[N13.out];rfl));have Z14:=hU (K14.out.farCells (g':=g13) (Ne.symm NE3.out) N 0);have ZQ:=hU (CQ.out.farCells (g':=g13) NE1.out N 0);have ZN:=hU (CN.out.putB K13.out N 0)
      have h1:Ext w7 (wC.setCells g13 0 N):=Qaa (W:=w7) (g:=g13) G13.out N 0 _ hH
      refine hK.out _ _ ⟨undef,rfl⟩ (h1) (fun hH2=>?_)
      clear hK K' hH
      have hH:=hH2
      clear hH2
      try simp only[zB]
      generalize wC.setCells g13 0 N=w8 at *
      refine oneH 15 (oi:=_) none (by kernel_rfl) rfl rfl rfl (fun K' hK=>?_)
      refine⟨?_⟩;rw[if_pos (by rfl)]
      refine Qao 52 _ _ (by rfl) (by rfl) g14 0 [.slice (some ⟨q,0,none⟩) 3 c] (by rfl) (by rfl) (Z14.out.there 0 1 (by simp)) (by kernel_rfl) (by rfl) ?_
      have Y13:=hU (Z13.out.farCells (g':=g14) NE3.out [.slice (some ⟨q,0,none⟩) 3 c] 0);have Y14:=hU (Z14.out.put 0 [.slice (some ⟨q,0,none⟩) 3 c] #[.slice (some ⟨q,0,none⟩) 3 c] (by simp) rfl);have YQ:=hU (ZQ.out.farCells (g':=g14) NE2.out [.slice (some ⟨q,0,none⟩) 3 c] 0);have YN:=hU (Qk4 ZN.out Z14.out [.slice (some ⟨q,0,none⟩) 3 c] 0)
      have h1:Ext w7 (w8.setCells g14 0 [.slice (some ⟨q,0,none⟩) 3 c]):=Qaa (W:=w7) (g:=g14) G14.out [.slice (some ⟨q,0,none⟩) 3 c] 0 _ hH
      refine hK.out _ _ ⟨undef,rfl⟩ (h1) (fun hH2=>?_)
      clear hK K' hH
      have hH:=hH2
      clear hH2
      try simp only[zB]
      generalize w8.setCells g14 0 [.slice (some ⟨q,0,none⟩) 3 c]=w9 at *
      refine Qah 16 (.int .i64 0) (some 15) rfl rfl (by kernel_rfl) (Or.inl ⟨by rfl,?yack5⟩) hH ?rack5
      case yack5=>intro w' hS';have yc:=y3c.out _ hS';go_simp;try with_reducible rfl
      try simp only[zA]
      have h1:=hH
      clear hH
      refine wpAnyH_done (by kernel_rfl) ?_ _
      try go_wp2_with fail
      go_meet
      case rel=>exact⟨g13,g14,q,c,N,cur,rfl,rfl,rfl,Y13.out,Y14.out,YQ.out,HCU.out,HCB.out,YN.out,h1⟩
 case rest=>
 obtain⟨g13,g14,q,cq,N9,cur,rfl,rfl,rfl,k13,k14,kq,hcu,hcb,hn9,h1⟩:=hcut
 obtain⟨w9,hw9⟩:=Qx7 h1
 subst hw9
 have K13:=hU k13;have K14:=hU k14;have KQ:=hU kq;have HCU:=hU hcu;have HCB:=hU hcb;have NB:=hU hn9
 have HB9:=hU AD.out.1
 replace X3:=hU (X3.out.next h1);replace K8H:=hU (K8H.out.ext h1);replace HN:=hU (HN.out.ext h1)
 have CW9:Hid (∀ W:World,Ext w9 W->W.cell? ⟨bw,ow+2,none⟩=some (.string TX)):=hU (fun W h=>CW7.out W (h1.next h))
 have N13:=hU hn9.len
 have M8:=hU HN.out.len
 clear k13 k14 kq hcu hcb hn9 h1 AD KI WR K37 y3c CW7
 have R13:=hU (Blk.range K13.out)
 go_wp2_with (refine wpList_load_mid rfl 37 _ rfl g13 0 rfl N9 _ R13.out Tryz.underlying37 rfl (by rw[N13.out];kernel_rfl) ?_)
 refine(Qv2 BB N9 _ NB.out.rd HB9.out.2).mono ?_
 rintro e wa ⟨q2,rfl,hq2,kq2,h1⟩
 have hx:=Ext.new (Below.refl wa.heap.size wa) (.cells #[.slice (some ⟨q2,0,none⟩) 3 3] 52)
 have K16:=hU (Blk.new wa 52 #[.slice (some ⟨q2,0,none⟩) 3 3])
 have h2:=h1.next hx
 replace K13:=hU (K13.out.ext h2);replace K14:=hU (K14.out.ext h2);replace KQ:=hU (KQ.out.ext h2);replace NB:=hU (NB.out.ext h2);replace K8H:=hU (K8H.out.ext h2);replace HN:=hU (HN.out.ext h2);replace X3:=hU (X3.out.next h2)
 have KQ2:=hU (kq2.ext hx)
 have CWA:Hid (∀ W:World,Ext (wa.alloc (.cells #[.slice (some ⟨q2,0,none⟩) 3 3] 52)) W->W.cell? ⟨bw,ow+2,none⟩=some (.string TX)):=hU (fun W h=>CW9.out W (h2.next h))
 clear h1 hx h2 kq2 hq2 CW9 R13
 go_upto_region 16 with fail
 obtain⟨g16,hg16⟩:∃ g16,g16=wa.heap.size:=⟨_,rfl⟩
 rw[<-hg16] at K16
 rw[<-hg16]
 clear hg16
 generalize wa.alloc (.cells #[.slice (some ⟨q2,0,none⟩) 3 3] 52)=wb at *
 have SD:Hid (Calls Tryz.prog 13 #[.agg #[.slice (some ⟨q,0,none⟩) 3 cq],.agg #[.slice (some ⟨q2,0,none⟩) 3 3]] wb fun e w'=>e=.returned (.bool true)/\Ext wb w'):=hU (Qp3 (some ⟨q,0,none⟩) (some ⟨q2,0,none⟩) cq 3 (Qcl BB) wb (Qgq KQ.out HCU.out rfl HCB.out) (Qgq KQ2.out rfl rfl ⟨Nat.le_refl _,by unfold maxLen;omega⟩) (show(3:Nat)<=1048576 by decide))
 have MD:Hid (∀ W:World,Ext wb W->Calls Tryz.prog 14 #[.int .i64 b.width,.agg #[.slice (some ⟨q,0,none⟩) 3 cq]] W fun e w'=>e=.returned (.bool true)/\Ext W w'):=hU (fun W h=>by
  have h2:=Qow b.width (some ⟨q,0,none⟩) cq (Qcl BB) W (Qgq (KQ.out.ext h) HCU.out rfl HCB.out).reads (show(3:Nat)<=1048576 by decide) (Qvo HB9.out.2)
  rw[<-HB9.out.1,(Qyg HB9.out.2).2.2.2,HB9.out.1] at h2
  exact h2)
 obtain⟨wd,hwd⟩:∃ wd,wd=b.width:=⟨_,rfl⟩
 have BH:Hid (∀(W:World),Blk W g3 37 M.toArray->W.cell? ⟨g3,0,none⟩=some (.int .i64 wd)):=hU (fun W h=>by
  obtain⟨X0,x0,X1,x1,X2,x2,X3,x3,X4,x4,hM,_,_⟩:=HV.out
  rw[hM] at h
  rw[hwd]
  exact h.cell 0)
 rw[<-hwd] at MD
 clear hwd KQ2
 have K3B:=hU (K3H.out.ext X3.out)
 have VB:=hU (HV.out.ext X3.out)
 obtain⟨r14,f14⟩:=K14.out.rules
 obtain⟨r16,f16⟩:=K16.out.rules
 have c3:=BH.out _ K3B.out
 go_wp2_with fail
 refine SD.out.mono ?_
 rintro e wc ⟨rfl,h1⟩
 have K14c:=hU (K14.out.ext h1)
 clear r14 f14 r16 f16 c3 SD K16 K14
 have hx1:=h1
 obtain⟨r14,f14⟩:=K14c.out.rules
 have c3:=BH.out _ (K3B.out.ext hx1)
 go_wp2_with fail
 refine(MD.out _ hx1).mono ?_
 rintro e wd2 ⟨rfl,h1⟩
 have EX:=hU (hx1.next h1)
 clear hx1 h1 r14 f14 c3 MD K14c
 have cw:=CWA.out _ EX.out
 have R13:=hU (Blk.range (K13.out.ext EX.out));have R8:=hU (Blk.range (K8H.out.ext EX.out));have R3:=hU (Blk.range (K3B.out.ext EX.out))
 have NB2:=hU (NB.out.ext EX.out);have HN2:=hU (HN.out.ext EX.out);have VB2:=hU (VB.out.ext EX.out)
 have HZ:=hU ((Qfb HB9.out.2).n)
 have HQ:=hU (HE.out.next (X3.out.next EX.out))
 clear EX K13 K8H K3B NB HN VB CWA
 by_cases hw1:wh=1
 · have E:=hU (show b'=BB by rw[HBB.out,if_pos (Or.inl hw1)])
   have d1:((wh:Int)==1)=true:=beq_iff_eq.2 (by omega)
   clear hw1
   go_wp2_with (first|(refine wpList_load_mid rfl 37 _ rfl g13 0 rfl N9 _ R13.out Tryz.underlying37 rfl (by rw[N13.out];kernel_rfl) ?_)|(refine wpList_load_mid rfl 37 _ rfl g8 0 rfl N _ R8.out Tryz.underlying37 rfl (by rw[M8.out];kernel_rfl) ?_))
   refine(Qga BB N9 N _ NB2.out.rd (by have h:=HN2.out.rd;rw[E.out] at h;exact h) HZ.out).mono ?_
   rintro e we ⟨rfl,h1⟩
   go_wp2_with fail
   go_ret
   exact⟨rfl,HQ.out.next h1⟩
 have d1:((wh:Int)==1)=false:=beq_false_of_ne (by omega)
 by_cases hp0:part=TX.size
 · have E:=hU (show b'=BB by rw[HBB.out,if_pos (Or.inr hp0)])
   have d2:((part:Int)==(TX.size:Int))=true:=beq_iff_eq.2 (by omega)
   clear hw1 hp0
   go_wp2_with (first|(refine wpList_load_mid rfl 37 _ rfl g13 0 rfl N9 _ R13.out Tryz.underlying37 rfl (by rw[N13.out];kernel_rfl) ?_)|(refine wpList_load_mid rfl 37 _ rfl g8 0 rfl N _ R8.out Tryz.underlying37 rfl (by rw[M8.out];kernel_rfl) ?_))
   refine(Qga BB N9 N _ NB2.out.rd (by have h:=HN2.out.rd;rw[E.out] at h;exact h) HZ.out).mono ?_
   rintro e we ⟨rfl,h1⟩
   go_wp2_with fail
   go_ret
   exact⟨rfl,HQ.out.next h1⟩
 · have E:=hU (show b=BB by rw[HBB.out,if_neg (fun h=>h.elim hw1 hp0)])
   have d2:((part:Int)==(TX.size:Int))=false:=beq_false_of_ne (by omega)
   clear hw1 hp0
   go_wp2_with (first|(refine wpList_load_mid rfl 37 _ rfl g13 0 rfl N9 _ R13.out Tryz.underlying37 rfl (by rw[N13.out];kernel_rfl) ?_)|(refine wpList_load_mid rfl 37 _ rfl g3 0 rfl M _ R3.out Tryz.underlying37 rfl (by rw[HX13.out];kernel_rfl) ?_))
   refine(Qga BB N9 M _ NB2.out.rd (by have h:=VB2.out.rd;rw[E.out] at h;exact h) HZ.out).mono ?_
   rintro e we ⟨rfl,h1⟩
   go_wp2_with fail
   go_ret
   exact⟨rfl,HQ.out.next h1⟩
end Go.Proofs.YtbnkjgcpjeedfaaGreat

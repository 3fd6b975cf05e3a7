/-
  Right: No condition.
-/
import Derived.Test.YtbnkjgcpjeedfaaGreatRightC
namespace Go.Proofs.YtbnkjgcpjeedfaaGreat
set_option maxHeartbeats 16000000
set_option maxRecDepth 100000
set_option linter.unusedSimpArgs false
open Go.RowKit
set_option linter.unusedVariables false
theorem Qrt(B g:Nat)(A:Option Addr)(c:Nat)(l:List Int)(n:Int)(m:Nat)(w:World)(hn:inR n 1 32=true)(hm:m<=24)(hC:Qc6 w B g A c l) :
 Calls Tryz.prog 37 #[.pointer (some ⟨g,0,none⟩),.int .i64 n,.int .i64 (m:Int)] w fun e w'=>∃(b:Qad) (M:List Value),RB 24 b/\e=.returned (.agg M.toArray)/\BVal w.heap.size b M w'/\Qc6 w' B g A c l/\Qaz g w w':=by
 have BN:=hU (fun W=>new_step hn W)
 have RN:=hU (Qw3 hn)
 have hgw:=hC.lt
 have hBg:=hC.1
 have Q0:=Blk.new w 37 #[.int .i64 0,.slice none 0 0,.slice none 0 0,.slice none 0 0,.int .i64 0,.slice none 0 0,.int .i64 0,.slice none 0 0,.int .i64 0,.int .i64 0,.string ⟨#[]⟩,.int .i64 0,.string ⟨#[]⟩]
 have he:=Ext.new (Below.refl w.heap.size w) (.cells #[.int .i64 0,.slice none 0 0,.slice none 0 0,.slice none 0 0,.int .i64 0,.slice none 0 0,.int .i64 0,.slice none 0 0,.int .i64 0,.int .i64 0,.string ⟨#[]⟩,.int .i64 0,.string ⟨#[]⟩] 37)
 have CU:=hU (hC.alloc (.cells #[.int .i64 0,.slice none 0 0,.slice none 0 0,.slice none 0 0,.int .i64 0,.slice none 0 0,.int .i64 0,.slice none 0 0,.int .i64 0,.int .i64 0,.string ⟨#[]⟩,.int .i64 0,.string ⟨#[]⟩] 37))
 clear hC hn
 obtain⟨q0,hq0⟩:∃ q0,q0=w.heap.size:=⟨_,rfl⟩
 go_enter Tryz.func37,Tryz.ntmps37
 go_upto_region 1 with fail
 rw[<-hq0] at Q0
 rw[<-hq0]
 obtain⟨w1,hw1⟩:∃ w1,w1=w.alloc (.cells #[.int .i64 0,.slice none 0 0,.slice none 0 0,.slice none 0 0,.int .i64 0,.slice none 0 0,.int .i64 0,.slice none 0 0,.int .i64 0,.int .i64 0,.string ⟨#[]⟩,.int .i64 0,.string ⟨#[]⟩] 37):=⟨_,rfl⟩
 rw[<-hw1] at Q0 he CU
 rw[<-hw1]
 have hqw:w.heap.size<=q0:=by omega
 clear hw1 hq0
 go_wp2_with fail
 refine(BN.out _).mono ?_
 rintro e w2 ⟨M0,rfl,hv,h1⟩
 replace hv:=hv.low he.size
 replace Q0:=Q0.ext h1;replace he:=he.next h1;replace CU:=hU (CU.out.ext h1)
 clear h1 BN
 have KZ:=Blk.new w2 37 #[.int .i64 0,.slice none 0 0,.slice none 0 0,.slice none 0 0,.int .i64 0,.slice none 0 0,.int .i64 0,.slice none 0 0,.int .i64 0,.int .i64 0,.string ⟨#[]⟩,.int .i64 0,.string ⟨#[]⟩]
 obtain⟨w3,hwa,K7,hx2⟩:∃ wa,wa=(w2.alloc (.cells #[.int .i64 0,.slice none 0 0,.slice none 0 0,.slice none 0 0,.int .i64 0,.slice none 0 0,.int .i64 0,.slice none 0 0,.int .i64 0,.int .i64 0,.string ⟨#[]⟩,.int .i64 0,.string ⟨#[]⟩] 37)).setCells w2.heap.size 0 M0/\Blk wa w2.heap.size 37 M0.toArray/\Ext w2 wa:=⟨_,rfl,Qas KZ M0 (by rw[hv.len];rfl),Qaa (W:=w2) (Nat.le_refl _) M0 0 _ (Ext.new (Below.refl _ _) _)⟩
 have T4:=hU (show World.there (w2.alloc (.cells #[.int .i64 0,.slice none 0 0,.slice none 0 0,.slice none 0 0,.int .i64 0,.slice none 0 0,.int .i64 0,.slice none 0 0,.int .i64 0,.int .i64 0,.string ⟨#[]⟩,.int .i64 0,.string ⟨#[]⟩] 37)) w2.heap.size 0 M0.length by rw[hv.len];exact KZ.there 0 13 (by simp));have HW:=hU hwa
 have HX13:=hU hv.len;have HX1:=hU hv.one
 have q7:=Q0.lt
 clear hwa KZ
 have hv2:=hv.ext hx2
 replace Q0:=Q0.ext hx2;replace he:=he.next hx2;replace CU:=hU (CU.out.ext hx2)
 obtain⟨g7,hg7⟩:∃ g7,g7=w2.heap.size:=⟨_,rfl⟩
 have D:=hU (show RDs w B g q0 g7 from⟨hgw,hqw,by omega⟩)
 have R0:=hU (show RS0 w B g A c l q0 g7 (Qs6 n) M0 w3 from⟨Q0,by rw[hg7];exact K7,hv2,CU.out,Qaz.of_ext he⟩)
 clear Q0 K7 hv hv2 CU he q7
 go_upto_region 2 with(refine Qac rfl 37 _ _ rfl rfl w2.heap.size 0 M0 rfl rfl T4.out (by rw[HX13.out];kernel_rfl) HX1.out ?_;rw[<-HW.out])
 rw[<-hg7]
 clear T4 HW HX13 HX1 hx2 hg7
 go_upto_region 5 with fail
 go_loopw [9] (fun i wr=>∃(k:Nat) (b:Qad) (M:List Value),k<=m/\i=.int .i64 k/\RB k b/\RS0 w B g A c l q0 g7 b M wr) (fun i _=>m-(intOf i).toNat)
 case atStart=>exact⟨0,Qs6 n,M0,Nat.zero_le _,rfl,⟨RN.out,Nat.zero_le _⟩,R0.out⟩
 case round=>
  clear R0 RN
  obtain⟨k,b,M,hk,rfl,hB,rs⟩:=hrel
  have RR:=hU rs
  have HB:=hU hB
  have HM13:=hU rs.v.len
  have HM1:=hU rs.v.one
  clear rs hB
  by_cases hlt:k<m
  case neg=>
   have RX:=hU (Blk.range RR.out.k)
   have TQ:=hU (show wr.there q0 0 M.length by rw[HM13.out];exact RR.out.q.there 0 13 (by simp))
   obtain⟨wz,hwz,z1,z2,z3,z4⟩:∃ wz,wz=wr.setCells q0 0 M/\Blk wz q0 37 M.toArray/\BVal w.heap.size b M wz/\Qc6 wz B g A c l/\Qaz g w wz:=⟨_,rfl,Qas RR.out.q M (by rw[HM13.out];rfl),RR.out.v.putB RR.out.q M 0,RR.out.c.far (by have:=D.out.q;omega) (by have:=D.out.q;omega) M 0,Qaz.setCellsNew D.out.q M 0 _ RR.out.x⟩
   have HW:=hU hwz;have Z1:=hU z1;have Z2:=hU z2;have Z3:=hU z3;have Z4:=hU z4
   clear hwz z1 z2 z3 z4
   go_wp2_with (first|(refine wpList_load_mid rfl 37 _ rfl g7 0 rfl M _ RX.out Tryz.underlying37 rfl (by rw[HM13.out];kernel_rfl) ?_)|(refine Qac rfl 37 _ _ rfl rfl q0 0 M rfl rfl TQ.out (by rw[HM13.out];kernel_rfl) HM1.out ?_;rw[<-HW.out]))
   exact Qdc rfl rfl Z1.out Tryz.underlying37 rfl (by rw[List.size_toArray,HM13.out];kernel_rfl) rfl ⟨b,M,⟨HB.out.1,by have:=HB.out.2;omega⟩,rfl,Z2.out,Z3.out,Z4.out⟩
  have RX:=hU (Blk.range RR.out.k)
  have KZ:=Blk.new wr 37 #[.int .i64 0,.slice none 0 0,.slice none 0 0,.slice none 0 0,.int .i64 0,.slice none 0 0,.int .i64 0,.slice none 0 0,.int .i64 0,.int .i64 0,.string ⟨#[]⟩,.int .i64 0,.string ⟨#[]⟩]
  obtain⟨w4,hwa,K10,hx2⟩:∃ wa,wa=(wr.alloc (.cells #[.int .i64 0,.slice none 0 0,.slice none 0 0,.slice none 0 0,.int .i64 0,.slice none 0 0,.int .i64 0,.slice none 0 0,.int .i64 0,.int .i64 0,.string ⟨#[]⟩,.int .i64 0,.string ⟨#[]⟩] 37)).setCells wr.heap.size 0 M/\Blk wa wr.heap.size 37 M.toArray/\Ext wr wa:=⟨_,rfl,Qas KZ M (by rw[HM13.out];rfl),Qaa (W:=wr) (Nat.le_refl _) M 0 _ (Ext.new (Below.refl _ _) _)⟩
  have T4:=hU (show World.there (wr.alloc (.cells #[.int .i64 0,.slice none 0 0,.slice none 0 0,.slice none 0 0,.int .i64 0,.slice none 0 0,.int .i64 0,.slice none 0 0,.int .i64 0,.int .i64 0,.string ⟨#[]⟩,.int .i64 0,.string ⟨#[]⟩] 37)) wr.heap.size 0 M.length by rw[HM13.out];exact KZ.there 0 13 (by simp));have HW:=hU hwa
  have q10:=RR.out.k.lt
  clear hwa KZ
  obtain⟨g10,hg10⟩:∃ g10,g10=wr.heap.size:=⟨_,rfl⟩
  have R1:=hU (show RSt w B g A c l q0 g7 g10 b M w4 from⟨RR.out.ext hx2,_,by rw[List.size_toArray,HM13.out],by rw[hg10];exact K10⟩)
  have h710:g7<g10:=by omega
  clear K10 RR hx2 q10
  go_upto_region 8 with(first|(refine wpList_load_mid rfl 37 _ rfl g7 0 rfl M _ RX.out Tryz.underlying37 rfl (by rw[HM13.out];kernel_rfl) ?_)|(refine Qac rfl 37 _ _ rfl rfl wr.heap.size 0 M rfl rfl T4.out (by rw[HM13.out];kernel_rfl) HM1.out ?_;rw[<-HW.out]))
  rw[<-hg10]
  clear T4 HW RX hg10
  go_wp2_with fail
  refine(Qbl B g A c l 8 _ (by decide) (by decide) R1.out.1.c).mono ?_
  rintro e w5 ⟨x,⟨x0,x8⟩,rfl,hc,kk⟩
  replace R1:=hU (R1.out.but D.out h710 hc kk)
  clear hc kk
  by_cases c0:x=0
  · subst c0
    clear x0 x8
    have RX:=hU (Blk.range R1.out.1.k)
    go_wp2_with (refine wpList_load_mid rfl 37 _ rfl g7 0 rfl M _ RX.out Tryz.underlying37 rfl (by rw[HM13.out];kernel_rfl) ?_)
    refine(Qre HB.out R1.out.1.v.rd).mono ?_
    rintro e w6 ⟨N,u,cc,rfl,⟨d13,d1,dn⟩,h1⟩
    have hs:=R1.out.1.x.size
    replace R1:=hU (R1.out.ext h1)
    have N13:=hU d13;have N1:=hU d1
    have T10:=hU (show w6.there g10 0 N.length by rw[d13];exact R1.out.there)
    obtain⟨N0,n1,n2⟩:=R1.out.2
    obtain⟨w7,hw7,hR7,hb7,hn7⟩:∃ w7,w7=w6.setCells g10 0 N/\RSt w B g A c l q0 g7 g10 b M w7/\Blk w7 g10 37 N.toArray/\(cc=0->∃ b',RB (k+1) b'/\BVal w.heap.size b' N w7):=⟨_,rfl,(R1.out.put D.out h710 N d13).1,(R1.out.put D.out h710 N d13).2,fun h=>by obtain⟨b',h2,h3⟩:=dn h;exact⟨b',h2,(h3.low hs).putB n2 N 0⟩⟩
    have HW7:=hU hw7;have BN:=hU hb7;have HN:=hU hn7
    replace R1:=hU hR7
    clear h1 d13 d1 dn RX hw7 hR7 hb7 hn7 hs n1 n2
    go_upto_region 17 with(refine Qac rfl 37 _ _ rfl rfl g10 0 N rfl rfl T10.out (by rw[N13.out];kernel_rfl) N1.out ?_;rw[<-HW7.out])
    clear T10 HW7
    have T7:=hU (show w7.there g7 0 N.length by rw[N13.out];exact R1.out.1.k.there 0 13 (by rw[List.size_toArray,HM13.out];decide))
    by_cases h0:cc=0
    · subst h0
      obtain⟨b',hb',hv'⟩:=HN.out rfl
      have RX:=hU (Blk.range BN.out)
      obtain⟨wz,hwz,hR⟩:∃ wz,wz=w7.setCells g7 0 N/\RS0 w B g A c l q0 g7 b' N wz:=⟨_,rfl,R1.out.1.take D.out hv'⟩
      have HW:=hU hwz;have RZ:=hU hR;have HB':=hU hb'
      clear hwz hR hv' hb' HN
      go_wp2_with (first|(refine wpList_load_mid rfl 37 _ rfl g10 0 rfl N _ RX.out Tryz.underlying37 rfl (by rw[N13.out];kernel_rfl) ?_)|(refine Qac rfl 37 _ _ rfl rfl g7 0 N rfl rfl T7.out (by rw[N13.out];kernel_rfl) N1.out ?_;rw[<-HW.out]))
      go_roundw
      case rel=>exact⟨k+1,b',N,by omega,by go_num,HB'.out,RZ.out⟩
      case measure=>simp[intOf];omega
    · have z0:((cc:Int)==0)=false:=beq_false_of_ne (by omega)
      have z1:¬ ((cc:Int)=0):=by omega
      clear BN HN
      go_wp2_with fail
      go_roundw
      case rel=>exact⟨k+1,b,M,by omega,by go_num,HB.out.up,R1.out.1⟩
      case measure=>simp[intOf];omega
  by_cases c1:x=1
  · subst c1
    clear x0 x8
    have RX:=hU (Blk.range R1.out.1.k)
    go_wp2_with (refine wpList_load_mid rfl 37 _ rfl g7 0 rfl M _ RX.out Tryz.underlying37 rfl (by rw[HM13.out];kernel_rfl) ?_)
    refine(Qre HB.out R1.out.1.v.rd).mono ?_
    rintro e w6 ⟨N,u,cc,rfl,⟨d13,d1,dn⟩,h1⟩
    have hs:=R1.out.1.x.size
    replace R1:=hU (R1.out.ext h1)
    have N13:=hU d13;have N1:=hU d1
    have T10:=hU (show w6.there g10 0 N.length by rw[d13];exact R1.out.there)
    obtain⟨N0,n1,n2⟩:=R1.out.2
    obtain⟨w7,hw7,hR7,hb7,hn7⟩:∃ w7,w7=w6.setCells g10 0 N/\RSt w B g A c l q0 g7 g10 b M w7/\Blk w7 g10 37 N.toArray/\(cc=0->∃ b',RB (k+1) b'/\BVal w.heap.size b' N w7):=⟨_,rfl,(R1.out.put D.out h710 N d13).1,(R1.out.put D.out h710 N d13).2,fun h=>by obtain⟨b',h2,h3⟩:=dn h;exact⟨b',h2,(h3.low hs).putB n2 N 0⟩⟩
    have HW7:=hU hw7;have BN:=hU hb7;have HN:=hU hn7
    replace R1:=hU hR7
    clear h1 d13 d1 dn RX hw7 hR7 hb7 hn7 hs n1 n2
    go_upto_region 17 with(refine Qac rfl 37 _ _ rfl rfl g10 0 N rfl rfl T10.out (by rw[N13.out];kernel_rfl) N1.out ?_;rw[<-HW7.out])
    clear T10 HW7
    have T7:=hU (show w7.there g7 0 N.length by rw[N13.out];exact R1.out.1.k.there 0 13 (by rw[List.size_toArray,HM13.out];decide))
    by_cases h0:cc=0
    · subst h0
      obtain⟨b',hb',hv'⟩:=HN.out rfl
      have RX:=hU (Blk.range BN.out)
      obtain⟨wz,hwz,hR⟩:∃ wz,wz=w7.setCells g7 0 N/\RS0 w B g A c l q0 g7 b' N wz:=⟨_,rfl,R1.out.1.take D.out hv'⟩
      have HW:=hU hwz;have RZ:=hU hR;have HB':=hU hb'
      clear hwz hR hv' hb' HN
      go_wp2_with (first|(refine wpList_load_mid rfl 37 _ rfl g10 0 rfl N _ RX.out Tryz.underlying37 rfl (by rw[N13.out];kernel_rfl) ?_)|(refine Qac rfl 37 _ _ rfl rfl g7 0 N rfl rfl T7.out (by rw[N13.out];kernel_rfl) N1.out ?_;rw[<-HW.out]))
      go_roundw
      case rel=>exact⟨k+1,b',N,by omega,by go_num,HB'.out,RZ.out⟩
      case measure=>simp[intOf];omega
    · have z0:((cc:Int)==0)=false:=beq_false_of_ne (by omega)
      have z1:¬ ((cc:Int)=0):=by omega
      clear BN HN
      go_wp2_with fail
      go_roundw
      case rel=>exact⟨k+1,b,M,by omega,by go_num,HB.out.up,R1.out.1⟩
      case measure=>simp[intOf];omega
  by_cases c2:x=2
  · subst c2
    clear x0 x8
    go_upto_region 16 with fail
    refine wp_region_held_drew (S:=fun w'=>RSt w B g A c l q0 g7 g10 b M w') (by kernel_rfl) (R1.out.ext (Below.refl _ _).drew) (fun hH=>?_)
    generalize w5.drew=wd at *
    clear R1
    refine wpAnyH_take (i:=0) (oi:=_) (v:=.agg M.toArray) rfl (by kernel_rfl) (by kernel_rfl) (by kernel_rfl) (fun _ _ _ h=>h) (yieldsIf_load_mid (by rfl) 37 _ rfl g7 0 rfl M _ (fun w' h=>Blk.range h.1.k) Tryz.underlying37 rfl (by rw[HM13.out];kernel_rfl)) hH ?_
    try simp only[zB]
    refine tk 1 (.pointer (some ⟨g,0,none⟩)) (some 64) hH ?_
    try simp only[zA]
    refine tk 4 (.pointer (some ⟨g,0,none⟩)) (some 67) hH ?_
    try simp only[zA]
    refine tk 6 (.pointer (some ⟨g,0,none⟩)) (some 69) hH ?_
    try simp only[zA]
    refine oneH 2 (oi:=_) (some 65) (by kernel_rfl) rfl rfl rfl (fun K' hK=>?_)
    refine⟨?_⟩;rw[if_pos (by rfl)]
    go_simp
    have h1:=Ext.new (Below.refl wd.heap.size wd) (.cells #[.string ⟨#[97,110,110]⟩,.string ⟨#[98,111,98]⟩] 9)
    have KP:=hU (Blk.new wd 9 #[.string ⟨#[97,110,110]⟩,.string ⟨#[98,111,98]⟩])
    have gp:=hU (show g<wd.heap.size from hH.1.c.lt)
    refine hK.out _ _ ⟨_,rfl⟩ (hH.ext h1) (fun hH2=>?_)
    clear hK K' hH h1
    have hH:=hH2
    clear hH2
    try simp only[zB]
    refine oneH 3 (oi:=_) (some 66) (by kernel_rfl) rfl rfl rfl (fun K' hK=>?_)
    refine⟨?_⟩
    rw[if_pos (by rfl)]
    go_simp
    refine(Qhm B g wd.heap.size A c 2 l [⟨#[97,110,110]⟩,⟨#[98,111,98]⟩] _ (by decide) (by decide) (by have:=gp.out;omega) KP.out hH.1.c).mono ?_
    rintro e w6 ⟨rd,hrd,rfl,hc,kk⟩
    have hrs:rd.size<=20:=by simp at hrd;rcases hrd with rfl|rfl <;> decide
    clear hrd KP gp
    refine hK.out _ _ ⟨_,rfl⟩ (hH.but D.out h710 hc kk) (fun hH2=>?_)
    clear hK K' hH hc kk
    have hH:=hH2
    clear hH2
    try simp only[zB]
    refine oneH 5 (oi:=_) (some 68) (by kernel_rfl) rfl rfl rfl (fun K' hK=>?_)
    refine⟨?_⟩
    rw[if_pos (by rfl)]
    go_simp
    refine(Qfj B g A c l _ hH.1.c).mono ?_
    rintro e w6 ⟨tp,htp,rfl,hc,kk⟩
    have hts:=Qf7 tp htp
    clear htp
    refine hK.out _ _ ⟨_,rfl⟩ (hH.but D.out h710 hc kk) (fun hH2=>?_)
    clear hK K' hH hc kk
    have hH:=hH2
    clear hH2
    try simp only[zB]
    refine oneH 7 (oi:=_) (some 70) (by kernel_rfl) rfl rfl rfl (fun K' hK=>?_)
    refine⟨?_⟩
    rw[if_pos (by rfl)]
    go_simp
    refine(Qbl B g A c l 3 _ (by decide) (by decide) hH.1.c).mono ?_
    rintro e w6 ⟨ix,hix,rfl,hc,kk⟩
    refine hK.out _ _ ⟨_,rfl⟩ (hH.but D.out h710 hc kk) (fun hH2=>?_)
    clear hK K' hH hc kk
    have hH:=hH2
    clear hH2
    try simp only[zB]
    refine tk 8 (.agg #[.string rd,.string tp,.int .i64 ix]) (some 71) hH ?_
    try simp only[zA]
    refine oneH 9 (oi:=_) (some 72) (by kernel_rfl) rfl rfl rfl (fun K' hK=>?_)
    refine⟨?_⟩
    rw[if_pos (by rfl)]
    go_simp
    refine(Qra ⟨rd,tp,ix⟩ (Qw8 hrs hts hix.1 hix.2) HB.out hH.1.v.rd).mono ?_
    rintro e w6 ⟨N,u,cc,rfl,⟨d13,d1,dn⟩,h1⟩
    have hs:=hH.1.x.size
    have N13:=hU d13;have N1:=hU d1
    clear d13 d1
    refine hK.out _ _ ⟨_,rfl⟩ (hH.ext h1) (fun hH2=>?_)
    clear hK K' hH h1
    have hH:=hH2
    clear hH2
    try simp only[zB]
    refine tk 10 (.tuple #[.agg N.toArray,u,.int .i64 (cc:Int)]) (some 62) hH ?_
    try simp only[zA]
    refine tk 11 (.agg N.toArray) (some 73) hH ?_
    try simp only[zA]
    refine tk 12 (u) (some 74) hH ?_
    try simp only[zA]
    refine tk 13 (.int .i64 (cc:Int)) (some 75) hH ?_
    try simp only[zA]
    refine oneH 14 (oi:=_) none (by kernel_rfl) rfl rfl rfl (fun K' hK=>?_)
    refine⟨?_⟩;rw[if_pos (by rfl)]
    refine Qao 37 _ _ (by rfl) (by rfl) g10 0 N (by rfl) (by rfl) (by rw[N13.out];exact hH.there) (by rw[N13.out];kernel_rfl) N1.out ?_
    obtain⟨N0,n1,n2⟩:=hH.2
    have hn7:cc=0->∃ b',RB (k+1) b'/\BVal w.heap.size b' N (w6.setCells g10 0 N):=fun h=>by obtain⟨b',h2,h3⟩:=dn h;exact⟨b',h2,(h3.low hs).putB n2 N 0⟩
    have HN:=hU hn7
    obtain⟨hr7,hb7⟩:=hH.put D.out h710 N N13.out
    have BN:=hU hb7
    clear hn7 dn n1 n2 hs hb7
    refine hK.out _ _ ⟨undef,rfl⟩ (hr7) (fun hH2=>?_)
    clear hK K' hH hr7
    have hH:=hH2
    clear hH2
    try simp only[zB]
    generalize w6.setCells g10 0 N=w7 at *
    refine tk 15 (.int .i64 (cc:Int)) (some 11) hH ?_
    try simp only[zA]
    have R1:=hU hH
    clear hH
    refine wpAnyH_done (by kernel_rfl) ?_ _
    go_upto_region 17 with fail
    have T7:=hU (show w7.there g7 0 N.length by rw[N13.out];exact R1.out.1.k.there 0 13 (by rw[List.size_toArray,HM13.out];decide))
    by_cases h0:cc=0
    · subst h0
      obtain⟨b',hb',hv'⟩:=HN.out rfl
      have RX:=hU (Blk.range BN.out)
      obtain⟨wz,hwz,hR⟩:∃ wz,wz=w7.setCells g7 0 N/\RS0 w B g A c l q0 g7 b' N wz:=⟨_,rfl,R1.out.1.take D.out hv'⟩
      have HW:=hU hwz;have RZ:=hU hR;have HB':=hU hb'
      clear hwz hR hv' hb' HN
      go_wp2_with (first|(refine wpList_load_mid rfl 37 _ rfl g10 0 rfl N _ RX.out Tryz.underlying37 rfl (by rw[N13.out];kernel_rfl) ?_)|(refine Qac rfl 37 _ _ rfl rfl g7 0 N rfl rfl T7.out (by rw[N13.out];kernel_rfl) N1.out ?_;rw[<-HW.out]))
      go_roundw
      case rel=>exact⟨k+1,b',N,by omega,by go_num,HB'.out,RZ.out⟩
      case measure=>simp[intOf];omega
    · have z0:((cc:Int)==0)=false:=beq_false_of_ne (by omega)
      have z1:¬ ((cc:Int)=0):=by omega
      clear BN HN
      go_wp2_with fail
      go_roundw
      case rel=>exact⟨k+1,b,M,by omega,by go_num,HB.out.up,R1.out.1⟩
      case measure=>simp[intOf];omega
  by_cases c3:x=3
  · subst c3
    clear x0 x8
    go_upto_region 16 with fail
    refine wp_region_held_drew (S:=fun w'=>RSt w B g A c l q0 g7 g10 b M w') (by kernel_rfl) (R1.out.ext (Below.refl _ _).drew) (fun hH=>?_)
    generalize w5.drew=wd at *
    clear R1
    refine wpAnyH_take (i:=0) (oi:=_) (v:=.agg M.toArray) rfl (by kernel_rfl) (by kernel_rfl) (by kernel_rfl) (fun _ _ _ h=>h) (yieldsIf_load_mid (by rfl) 37 _ rfl g7 0 rfl M _ (fun w' h=>Blk.range h.1.k) Tryz.underlying37 rfl (by rw[HM13.out];kernel_rfl)) hH ?_
    try simp only[zB]
    refine tk 1 (.pointer (some ⟨g,0,none⟩)) (some 64) hH ?_
    try simp only[zA]
    refine tk 4 (.pointer (some ⟨g,0,none⟩)) (some 67) hH ?_
    try simp only[zA]
    refine tk 6 (.pointer (some ⟨g,0,none⟩)) (some 69) hH ?_
    try simp only[zA]
    refine oneH 2 (oi:=_) (some 65) (by kernel_rfl) rfl rfl rfl (fun K' hK=>?_)
    refine⟨?_⟩;rw[if_pos (by rfl)]
    go_simp
    have h1:=Ext.new (Below.refl wd.heap.size wd) (.cells #[.string ⟨#[97,110,110]⟩,.string ⟨#[98,111,98]⟩] 9)
    have KP:=hU (Blk.new wd 9 #[.string ⟨#[97,110,110]⟩,.string ⟨#[98,111,98]⟩])
    have gp:=hU (show g<wd.heap.size from hH.1.c.lt)
    refine hK.out _ _ ⟨_,rfl⟩ (hH.ext h1) (fun hH2=>?_)
    clear hK K' hH h1
    have hH:=hH2
    clear hH2
    try simp only[zB]
    refine oneH 3 (oi:=_) (some 66) (by kernel_rfl) rfl rfl rfl (fun K' hK=>?_)
    refine⟨?_⟩
    rw[if_pos (by rfl)]
    go_simp
    refine(Qhm B g wd.heap.size A c 2 l [⟨#[97,110,110]⟩,⟨#[98,111,98]⟩] _ (by decide) (by decide) (by have:=gp.out;omega) KP.out hH.1.c).mono ?_
    rintro e w6 ⟨rd,hrd,rfl,hc,kk⟩
    have hrs:rd.size<=20:=by simp at hrd;rcases hrd with rfl|rfl <;> decide
    clear hrd KP gp
    refine hK.out _ _ ⟨_,rfl⟩ (hH.but D.out h710 hc kk) (fun hH2=>?_)
    clear hK K' hH hc kk
    have hH:=hH2
    clear hH2
    try simp only[zB]
    refine oneH 5 (oi:=_) (some 68) (by kernel_rfl) rfl rfl rfl (fun K' hK=>?_)
    refine⟨?_⟩
    rw[if_pos (by rfl)]
    go_simp
    refine(Qfj B g A c l _ hH.1.c).mono ?_
    rintro e w6 ⟨tp,htp,rfl,hc,kk⟩
    have hts:=Qf7 tp htp
    clear htp
    refine hK.out _ _ ⟨_,rfl⟩ (hH.but D.out h710 hc kk) (fun hH2=>?_)
    clear hK K' hH hc kk
    have hH:=hH2
    clear hH2
    try simp only[zB]
    refine oneH 7 (oi:=_) (some 70) (by kernel_rfl) rfl rfl rfl (fun K' hK=>?_)
    refine⟨?_⟩
    rw[if_pos (by rfl)]
    go_simp
    refine(Qbl B g A c l 3 _ (by decide) (by decide) hH.1.c).mono ?_
    rintro e w6 ⟨ix,hix,rfl,hc,kk⟩
    refine hK.out _ _ ⟨_,rfl⟩ (hH.but D.out h710 hc kk) (fun hH2=>?_)
    clear hK K' hH hc kk
    have hH:=hH2
    clear hH2
    try simp only[zB]
    refine tk 8 (.agg #[.string rd,.string tp,.int .i64 ix]) (some 71) hH ?_
    try simp only[zA]
    refine oneH 9 (oi:=_) (some 72) (by kernel_rfl) rfl rfl rfl (fun K' hK=>?_)
    refine⟨?_⟩
    rw[if_pos (by rfl)]
    go_simp
    refine(Qra ⟨rd,tp,ix⟩ (Qw8 hrs hts hix.1 hix.2) HB.out hH.1.v.rd).mono ?_
    rintro e w6 ⟨N,u,cc,rfl,⟨d13,d1,dn⟩,h1⟩
    have hs:=hH.1.x.size
    have N13:=hU d13;have N1:=hU d1
    clear d13 d1
    refine hK.out _ _ ⟨_,rfl⟩ (hH.ext h1) (fun hH2=>?_)
    clear hK K' hH h1
    have hH:=hH2
    clear hH2
    try simp only[zB]
    refine tk 10 (.tuple #[.agg N.toArray,u,.int .i64 (cc:Int)]) (some 62) hH ?_
    try simp only[zA]
    refine tk 11 (.agg N.toArray) (some 73) hH ?_
    try simp only[zA]
    refine tk 12 (u) (some 74) hH ?_
    try simp only[zA]
    refine tk 13 (.int .i64 (cc:Int)) (some 75) hH ?_
    try simp only[zA]
    refine oneH 14 (oi:=_) none (by kernel_rfl) rfl rfl rfl (fun K' hK=>?_)
    refine⟨?_⟩;rw[if_pos (by rfl)]
    refine Qao 37 _ _ (by rfl) (by rfl) g10 0 N (by rfl) (by rfl) (by rw[N13.out];exact hH.there) (by rw[N13.out];kernel_rfl) N1.out ?_
    obtain⟨N0,n1,n2⟩:=hH.2
    have hn7:cc=0->∃ b',RB (k+1) b'/\BVal w.heap.size b' N (w6.setCells g10 0 N):=fun h=>by obtain⟨b',h2,h3⟩:=dn h;exact⟨b',h2,(h3.low hs).putB n2 N 0⟩
    have HN:=hU hn7
    obtain⟨hr7,hb7⟩:=hH.put D.out h710 N N13.out
    have BN:=hU hb7
    clear hn7 dn n1 n2 hs hb7
    refine hK.out _ _ ⟨undef,rfl⟩ (hr7) (fun hH2=>?_)
    clear hK K' hH hr7
    have hH:=hH2
    clear hH2
    try simp only[zB]
    generalize w6.setCells g10 0 N=w7 at *
    refine tk 15 (.int .i64 (cc:Int)) (some 11) hH ?_
    try simp only[zA]
    have R1:=hU hH
    clear hH
    refine wpAnyH_done (by kernel_rfl) ?_ _
    go_upto_region 17 with fail
    have T7:=hU (show w7.there g7 0 N.length by rw[N13.out];exact R1.out.1.k.there 0 13 (by rw[List.size_toArray,HM13.out];decide))
    by_cases h0:cc=0
    · subst h0
      obtain⟨b',hb',hv'⟩:=HN.out rfl
      have RX:=hU (Blk.range BN.out)
      obtain⟨wz,hwz,hR⟩:∃ wz,wz=w7.setCells g7 0 N/\RS0 w B g A c l q0 g7 b' N wz:=⟨_,rfl,R1.out.1.take D.out hv'⟩
      have HW:=hU hwz;have RZ:=hU hR;have HB':=hU hb'
      clear hwz hR hv' hb' HN
      go_wp2_with (first|(refine wpList_load_mid rfl 37 _ rfl g10 0 rfl N _ RX.out Tryz.underlying37 rfl (by rw[N13.out];kernel_rfl) ?_)|(refine Qac rfl 37 _ _ rfl rfl g7 0 N rfl rfl T7.out (by rw[N13.out];kernel_rfl) N1.out ?_;rw[<-HW.out]))
      go_roundw
      case rel=>exact⟨k+1,b',N,by omega,by go_num,HB'.out,RZ.out⟩
      case measure=>simp[intOf];omega
    · have z0:((cc:Int)==0)=false:=beq_false_of_ne (by omega)
      have z1:¬ ((cc:Int)=0):=by omega
      clear BN HN
      go_wp2_with fail
      go_roundw
      case rel=>exact⟨k+1,b,M,by omega,by go_num,HB.out.up,R1.out.1⟩
      case measure=>simp[intOf];omega
  have e0:(x==0)=false:=beq_false_of_ne c0
  have e1:(x==1)=false:=beq_false_of_ne c1
  have e2:(x==2)=false:=beq_false_of_ne c2
  have e3:(x==3)=false:=beq_false_of_ne c3
  go_upto_region 10 with fail
  refine wp_region_held_drew (S:=fun w'=>RSt w B g A c l q0 g7 g10 b M w') (by kernel_rfl) (R1.out.ext (Below.refl _ _).drew) (fun hH=>?_)
  generalize w5.drew=wd at *
  clear R1
  refine wpAnyH_take (i:=0) (oi:=_) (v:=.agg M.toArray) rfl (by kernel_rfl) (by kernel_rfl) (by kernel_rfl) (fun _ _ _ h=>h) (yieldsIf_load_mid (by rfl) 37 _ rfl g7 0 rfl M _ (fun w' h=>Blk.range h.1.k) Tryz.underlying37 rfl (by rw[HM13.out];kernel_rfl)) hH ?_
  try simp only[zB]
  refine tk 1 (.pointer (some ⟨g,0,none⟩)) (some 33) hH ?_
  try simp only[zA]
  refine tk 3 (.pointer (some ⟨g,0,none⟩)) (some 35) hH ?_
  try simp only[zA]
  refine tk 5 (.pointer (some ⟨g,0,none⟩)) (some 37) hH ?_
  try simp only[zA]
  refine tk 6 (.pointer (some ⟨g,0,none⟩)) (some 38) hH ?_
  try simp only[zA]
  refine tk 9 (.pointer (some ⟨g,0,none⟩)) (some 41) hH ?_
  try simp only[zA]
  refine tk 10 (.pointer (some ⟨g,0,none⟩)) (some 42) hH ?_
  try simp only[zA]
  refine oneH 2 (oi:=_) (some 34) (by kernel_rfl) rfl rfl rfl (fun K' hK=>?_)
  refine⟨?_⟩
  rw[if_pos (by rfl)]
  go_simp
  refine(Qfj B g A c l _ hH.1.c).mono ?_
  rintro e w6 ⟨tp,htp,rfl,hc,kk⟩
  have hts:=Qf7 tp htp
  clear htp
  refine hK.out _ _ ⟨_,rfl⟩ (hH.but D.out h710 hc kk) (fun hH2=>?_)
  clear hK K' hH hc kk
  have hH:=hH2
  clear hH2
  try simp only[zB]
  refine oneH 4 (oi:=_) (some 36) (by kernel_rfl) rfl rfl rfl (fun K' hK=>?_)
  refine⟨?_⟩
  rw[if_pos (by rfl)]
  go_simp
  refine(Qbl B g A c l 1000 _ (by decide) (by decide) hH.1.c).mono ?_
  rintro e w6 ⟨tm,htm,rfl,hc,kk⟩
  refine hK.out _ _ ⟨_,rfl⟩ (hH.but D.out h710 hc kk) (fun hH2=>?_)
  clear hK K' hH hc kk
  have hH:=hH2
  clear hH2
  try simp only[zB]
  refine oneH 7 (oi:=_) (some 39) (by kernel_rfl) rfl rfl rfl (fun K' hK=>?_)
  refine⟨?_⟩
  rw[if_pos (by rfl)]
  go_simp
  refine(Qbl B g A c l 2 _ (by decide) (by decide) hH.1.c).mono ?_
  rintro e w6 ⟨x2,hx2,rfl,hc,kk⟩
  obtain⟨n2,rfl⟩:∃ n2:Nat,x2=(n2:Int):=⟨x2.toNat,by omega⟩
  refine hK.out _ _ ⟨_,rfl⟩ (hH.but D.out h710 hc kk) (fun hH2=>?_)
  clear hK K' hH hc kk
  have hH:=hH2
  clear hH2
  try simp only[zB]
  refine oneH 8 (oi:=_) (some 40) (by kernel_rfl) rfl rfl rfl (fun K' hK=>?_)
  refine⟨?_⟩
  rw[if_pos (by rfl)]
  go_simp
  refine(Qhl B g A c l n2 _ (by omega) hH.1.c).mono ?_
  rintro e w6 ⟨ky,hky,rfl,hc,kk⟩
  refine hK.out _ _ ⟨_,rfl⟩ (hH.but D.out h710 hc kk) (fun hH2=>?_)
  clear hK K' hH hc kk
  have hH:=hH2
  clear hH2
  try simp only[zB]
  refine oneH 11 (oi:=_) (some 43) (by kernel_rfl) rfl rfl rfl (fun K' hK=>?_)
  refine⟨?_⟩
  rw[if_pos (by rfl)]
  go_simp
  refine(Qbl B g A c l 4 _ (by decide) (by decide) hH.1.c).mono ?_
  rintro e w6 ⟨x3,hx3,rfl,hc,kk⟩
  obtain⟨n3,rfl⟩:∃ n3:Nat,x3=(n3:Int):=⟨x3.toNat,by omega⟩
  refine hK.out _ _ ⟨_,rfl⟩ (hH.but D.out h710 hc kk) (fun hH2=>?_)
  clear hK K' hH hc kk
  have hH:=hH2
  clear hH2
  try simp only[zB]
  refine oneH 12 (oi:=_) (some 44) (by kernel_rfl) rfl rfl rfl (fun K' hK=>?_)
  refine⟨?_⟩
  rw[if_pos (by rfl)]
  go_simp
  refine(Qhl B g A c l n3 _ (by omega) hH.1.c).mono ?_
  rintro e w6 ⟨bd,hbd,rfl,hc,kk⟩
  refine hK.out _ _ ⟨_,rfl⟩ (hH.but D.out h710 hc kk) (fun hH2=>?_)
  clear hK K' hH hc kk
  have hH:=hH2
  clear hH2
  try simp only[zB]
  refine oneH 13 (oi:=_) (some 45) (by kernel_rfl) rfl rfl rfl (fun K' hK=>?_)
  refine⟨?_⟩
  rw[if_pos (by rfl)]
  go_simp
  refine(pub_step ⟨tp,0,tm,ky,bd⟩ (ent_ok hts htm.1 htm.2 (by omega) (by omega)) HB.out hH.1.v.rd).mono ?_
  rintro e w6 ⟨N,u,ll,cc,rfl,⟨d13,d1,dn⟩,h1⟩
  have hs:=hH.1.x.size
  have N13:=hU d13;have N1:=hU d1
  clear d13 d1
  refine hK.out _ _ ⟨_,rfl⟩ (hH.ext h1) (fun hH2=>?_)
  clear hK K' hH h1
  have hH:=hH2
  clear hH2
  try simp only[zB]
  refine tk 14 (.tuple #[.agg N.toArray,u,.int .i64 (ll:Int),.int .i64 (cc:Int)]) (some 31) hH ?_
  try simp only[zA]
  refine tk 15 (.agg N.toArray) (some 46) hH ?_
  try simp only[zA]
  refine tk 16 (u) (some 47) hH ?_
  try simp only[zA]
  refine tk 17 (.int .i64 (ll:Int)) (some 48) hH ?_
  try simp only[zA]
  refine tk 18 (.int .i64 (cc:Int)) (some 49) hH ?_
  try simp only[zA]
  refine oneH 19 (oi:=_) none (by kernel_rfl) rfl rfl rfl (fun K' hK=>?_)
  refine⟨?_⟩;rw[if_pos (by rfl)]
  refine Qao 37 _ _ (by rfl) (by rfl) g10 0 N (by rfl) (by rfl) (by rw[N13.out];exact hH.there) (by rw[N13.out];kernel_rfl) N1.out ?_
  obtain⟨N0,n1,n2⟩:=hH.2
  have hn7:cc=0->∃ b',RB (k+1) b'/\BVal w.heap.size b' N (w6.setCells g10 0 N):=fun h=>by obtain⟨b',h2,h3⟩:=dn h;exact⟨b',h2,(h3.low hs).putB n2 N 0⟩
  have HN:=hU hn7
  obtain⟨hr7,hb7⟩:=hH.put D.out h710 N N13.out
  have BN:=hU hb7
  clear hn7 dn n1 n2 hs hb7
  refine hK.out _ _ ⟨undef,rfl⟩ (hr7) (fun hH2=>?_)
  clear hK K' hH hr7
  have hH:=hH2
  clear hH2
  try simp only[zB]
  generalize w6.setCells g10 0 N=w7 at *
  refine tk 20 (.int .i64 (cc:Int)) (some 11) hH ?_
  try simp only[zA]
  have R1:=hU hH
  clear hH
  refine wpAnyH_done (by kernel_rfl) ?_ _
  go_upto_region 17 with fail
  have T7:=hU (show w7.there g7 0 N.length by rw[N13.out];exact R1.out.1.k.there 0 13 (by rw[List.size_toArray,HM13.out];decide))
  by_cases h0:cc=0
  · subst h0
    obtain⟨b',hb',hv'⟩:=HN.out rfl
    have RX:=hU (Blk.range BN.out)
    obtain⟨wz,hwz,hR⟩:∃ wz,wz=w7.setCells g7 0 N/\RS0 w B g A c l q0 g7 b' N wz:=⟨_,rfl,R1.out.1.take D.out hv'⟩
    have HW:=hU hwz;have RZ:=hU hR;have HB':=hU hb'
    clear hwz hR hv' hb' HN
    go_wp2_with (first|(refine wpList_load_mid rfl 37 _ rfl g10 0 rfl N _ RX.out Tryz.underlying37 rfl (by rw[N13.out];kernel_rfl) ?_)|(refine Qac rfl 37 _ _ rfl rfl g7 0 N rfl rfl T7.out (by rw[N13.out];kernel_rfl) N1.out ?_;rw[<-HW.out]))
    go_roundw
    case rel=>exact⟨k+1,b',N,by omega,by go_num,HB'.out,RZ.out⟩
    case measure=>simp[intOf];omega
  · have z0:((cc:Int)==0)=false:=beq_false_of_ne (by omega)
    have z1:¬ ((cc:Int)=0):=by omega
    clear BN HN
    go_wp2_with fail
    go_roundw
    case rel=>exact⟨k+1,b,M,by omega,by go_num,HB.out.up,R1.out.1⟩
    case measure=>simp[intOf];omega
end Go.Proofs.YtbnkjgcpjeedfaaGreat

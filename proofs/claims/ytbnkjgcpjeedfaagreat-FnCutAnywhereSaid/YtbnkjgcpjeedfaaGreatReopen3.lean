/-
  Reopen3: No condition.
-/
import Derived.Test.YtbnkjgcpjeedfaaGreatReopen2
import Derived.Test.YtbnkjgcpjeedfaaGreatReopenR
import Derived.Test.YtbnkjgcpjeedfaaGreatPartsB
import Derived.Test.YtbnkjgcpjeedfaaGreatNodeW
namespace Go.Proofs.YtbnkjgcpjeedfaaGreat
set_option maxHeartbeats 4000000
set_option maxRecDepth 100000
set_option linter.unusedSimpArgs false
open Go.RowKit
set_option linter.unusedVariables false
theorem Qve:(Tryz.prog.info? 50).map (fun i=>(i.zero,i.size,i.bytes))=some (some (.agg #[.int .i64 0,.int .i64 0,.string ⟨#[]⟩]),3,32):=by kernel_rfl
theorem Qov(n:Int)(A:Option Addr)(c:Nat)(l:List ByteArray)(w:World)(hr:Qav w w.heap.size sone 1 A l)(hl:l.length<=1048576)(hsz:∀ x∈l,x.size<=1099511627776)(hy:(inR n 1 32&&Qch l)=true) :
 Calls Tryz.prog 19 #[.int .i64 n,.agg #[.slice A l.length c]] w (Qlc n l w):=by
 obtain⟨i0,hi,hz0,hz1,hz2⟩:=info_parts Qve
 have Hy:=hU hy
 have b1:inR n 1 32=true:=by rw[Bool.and_eq_true] at hy;exact hy.1
 have q1:Qch l=true:=by rw[Bool.and_eq_true] at hy;exact hy.2
 have HL3:=hU (Qvn q1)
 have Hsz:=hU hsz;have B1:=hU b1
 clear hy hsz
 have K0:=hU (Blk.new w 52 #[.slice A l.length c])
 have He0:=Ext.new (Below.refl w.heap.size w) (.cells #[.slice A l.length c] 52)
 have HR:=hU hr
 clear hr
 obtain⟨w0,hw0⟩:∃ w0,w0=w.alloc (.cells #[.slice A l.length c] 52):=⟨_,rfl⟩
 have hs0:w0.heap.size=w.heap.size+1:=by rw[hw0,World.size_alloc]
 rw[<-hw0] at He0
 have K0':=K0.out
 rw[<-hw0] at K0'
 have KA:=(K0'.alloc (.cells #[.int .i64 0,.slice none 0 0,.slice none 0 0,.slice none 0 0,.int .i64 0,.slice none 0 0,.int .i64 0,.slice none 0 0,.int .i64 0,.int .i64 0,.string ⟨#[]⟩,.int .i64 0,.string ⟨#[]⟩] 37))
 have KB:=(Blk.new w0 37 #[.int .i64 0,.slice none 0 0,.slice none 0 0,.slice none 0 0,.int .i64 0,.slice none 0 0,.int .i64 0,.slice none 0 0,.int .i64 0,.int .i64 0,.string ⟨#[]⟩,.int .i64 0,.string ⟨#[]⟩])
 have he:=He0.new (.cells #[.int .i64 0,.slice none 0 0,.slice none 0 0,.slice none 0 0,.int .i64 0,.slice none 0 0,.int .i64 0,.slice none 0 0,.int .i64 0,.int .i64 0,.string ⟨#[]⟩,.int .i64 0,.string ⟨#[]⟩] 37)
 obtain⟨w1,hw1⟩:∃ w1,w1=w0.alloc (.cells #[.int .i64 0,.slice none 0 0,.slice none 0 0,.slice none 0 0,.int .i64 0,.slice none 0 0,.int .i64 0,.slice none 0 0,.int .i64 0,.int .i64 0,.string ⟨#[]⟩,.int .i64 0,.string ⟨#[]⟩] 37):=⟨_,rfl⟩
 rw[<-hw1] at KA KB he
 have W0:=hU hw0;have W1:=hU hw1
 rw[hs0] at KB
 obtain⟨ac,af⟩:=KA.rules
 obtain⟨bc,bf⟩:=KB.rules
 clear K0 K0' He0 hw0 hw1 hs0
 go_enter Tryz.func19,Tryz.ntmps19
 go_upto_region 1 with fail
 rw[<-W0.out]
 rw[<-W1.out]
 go_wp2_with (go_at_call 55;refine(Qbn _ _).mono ?_;rintro e w' ⟨rfl,rfl⟩;rw[b1])
 refine(Qcr A c l _ (HR.out.ext he) hl).mono ?_
 rintro e w2 ⟨rfl,h2⟩
 rw[q1]
 replace KA:=KA.ext h2;replace KB:=KB.ext h2;replace he:=he.next h2
 clear W0 W1 ac af bc bf h2 b1 q1
 obtain⟨gR,hgR⟩:∃ gR,gR=w.heap.size+1:=⟨_,rfl⟩
 rw[<-hgR] at KB
 rw[<-hgR]
 have HgR:=hU hgR
 clear hgR
 obtain⟨ac,af⟩:=KA.rules
 go_upto_region 4 with fail
 have KT:=Blk.new w2 112 #[.slice none 0 0,.slice none 0 0,.slice none 0 0]
 have hx:=Ext.new (Below.refl w2.heap.size w2) (.cells #[.slice none 0 0,.slice none 0 0,.slice none 0 0] 112)
 have hRT:gR<w2.heap.size:=KB.lt
 replace KA:=KA.ext hx;replace KB:=KB.ext hx;replace he:=he.next hx
 obtain⟨gT,hgT⟩:∃ gT,gT=w2.heap.size:=⟨_,rfl⟩
 rw[<-hgT] at KT hRT
 rw[<-hgT]
 clear hgT hx ac af
 obtain⟨w3,hw3⟩:∃ w3,w3=w2.alloc (.cells #[.slice none 0 0,.slice none 0 0,.slice none 0 0] 112):=⟨_,rfl⟩
 rw[<-hw3] at KA KB KT he
 rw[<-hw3]
 clear hw3
 obtain⟨ac,af⟩:=KA.rules
 have KB3:=hU KB;have KT3:=hU KT;have He3:=hU he
 clear KB KT he
 go_wp2_with fail
 clear ac af
 go_loopw [8,27] (fun v i wr=>∃(k:Nat) (vs:List Value),k<=l.length/\i=.int .i64 k/\vs.length=3/\(∀ j,j<k->RowT w.heap.size wr (vs.getD j undef) (Qbe l j))/\Blk wr gR 37 #[.int .i64 0,.slice none 0 0,.slice none 0 0,.slice none 0 0,.int .i64 0,.slice none 0 0,.int .i64 0,.slice none 0 0,.int .i64 0,.int .i64 0,.string ⟨#[]⟩,.int .i64 0,.string ⟨#[]⟩]/\Blk wr gT 112 vs.toArray/\wr.ownsRow w.heap.size 50 3 v (dmgW (dmgs 0 (l.take k))).length ((dmgW (dmgs 0 (l.take k))).flatMap Qbs.cells)/\Ext w wr) (fun _ i _=>l.length-(intOf i).toNat)
 case atStart=>exact⟨0,[.slice none 0 0,.slice none 0 0,.slice none 0 0],Nat.zero_le _,rfl,rfl,(fun j hj=>absurd hj (Nat.not_lt_zero _)),KB3.out,KT3.out,World.ownsRow_nil _ _ _ _,He3.out⟩
 case round=>
  clear KB3 KT3 He3 KA
  obtain⟨k,vs,hk,rfl,hvs,hrows,KB,KT,hown,he⟩:=hrel
  obtain⟨V,cv,rfl,hnc⟩:=Qae hown
  have Hrows:=hU hrows;have Hvs:=hU hvs
  have KBH:=hU KB;have KTH:=hU KT;have KO:=hU hown
  clear hrows hvs KB KT hown
  by_cases hlt:k<l.length
  case neg=>
   obtain rfl:k=l.length:=by omega
   rw[List.take_length]
   have KO:=hU (show wr.ownsRow w.heap.size 50 3 (.slice V (dmgW (dmgs 0 l)).length cv) (dmgW (dmgs 0 l)).length ((dmgW (dmgs 0 l)).flatMap Qbs.cells) by have:=KO.out;rwa [List.take_length] at this)
   obtain⟨v0,v1,v2,rfl⟩:∃ v0 v1 v2,vs=[v0,v1,v2]:=by
    match vs,Hvs.out with
    | [a,b,c],_=>exact⟨a,b,c,rfl⟩
   have r0:RowT w.heap.size wr v0 (Qbe l 0):=Hrows.out 0 (by have:=HL3.out;omega)
   have r1:RowT w.heap.size wr v1 (Qbe l 1):=Hrows.out 1 (by have:=HL3.out;omega)
   have r2:RowT w.heap.size wr v2 (Qbe l 2):=Hrows.out 2 (by have:=HL3.out;omega)
   have fl0:=Qny l 0;have fl1:=Qny l 1;have fl2:=Qny l 2
   have fs0:=Qls Hsz.out 0;have fs1:=Qls Hsz.out 1;have fs2:=Qls Hsz.out 2
   obtain⟨b0,hb0⟩:∃ b0,b0=reB0 n l:=⟨_,rfl⟩
   have hbe:b0.log.entries=(Qbe l 0).map rlD:=by rw[hb0];rfl
   have hbr:b0.receipts=(Qbe l 2).map rrD:=by rw[hb0];rfl
   have hbh:b0.heads=newH true n :: (Qbe l 1).map (hrD n):=by rw[hb0];rfl
   obtain⟨F0,hF0⟩:∃ F0,F0=Qbe l 0:=⟨_,rfl⟩
   obtain⟨F1,hF1⟩:∃ F1,F1=Qbe l 1:=⟨_,rfl⟩
   obtain⟨F2,hF2⟩:∃ F2,F2=Qbe l 2:=⟨_,rfl⟩
   rw[<-hF0] at r0 fl0 fs0 hbe
   rw[<-hF1] at r1 fl1 fs1 hbh
   rw[<-hF2] at r2 fl2 fs2 hbr
   have HB0:=hU hb0;have HF0:=hU hF0;have HF1:=hU hF1;have HF2:=hU hF2;have FS0:=hU fs0;have FS1:=hU fs1;have FS2:=hU fs2;have HBE:=hU hbe;have HBR:=hU hbr;have HBH:=hU hbh
   clear hb0 hF0 hF1 hF2 fs0 fs1 fs2 hbe hbr hbh Hrows Hvs
   obtain⟨A0,c0,rfl,_⟩:=r0.cells
   obtain⟨A1,c1,rfl,_⟩:=r1.cells
   obtain⟨A2,c2,rfl,_⟩:=r2.cells
   obtain⟨dm,hdm⟩:∃ dm,dm=dmgW (dmgs 0 l):=⟨_,rfl⟩
   rw[<-hdm] at KO
   rw[<-hdm]
   have HDM:=hU hdm
   clear hdm hnc
   have HE0:=hU he
   have RL:=hU (Qbj.cons KO.out (Qbj.cons r0 (Qbj.cons r1 (Qbj.cons r2 (Qbj.nil w.heap.size wr)))))
   have KV0:=Blk.new wr 37 #[.int .i64 0,.slice none 0 0,.slice none 0 0,.slice none 0 0,.int .i64 0,.slice none 0 0,.int .i64 0,.slice none 0 0,.int .i64 0,.int .i64 0,.string ⟨#[]⟩,.int .i64 0,.string ⟨#[]⟩]
   obtain⟨w7,hw7,KV,hx⟩:∃ w7,w7=(wr.alloc (.cells #[.int .i64 0,.slice none 0 0,.slice none 0 0,.slice none 0 0,.int .i64 0,.slice none 0 0,.int .i64 0,.slice none 0 0,.int .i64 0,.int .i64 0,.string ⟨#[]⟩,.int .i64 0,.string ⟨#[]⟩] 37)).setCells wr.heap.size 0 [.int .i64 n,.slice none 0 0,.slice none 0 0,.slice none 0 0,.int .i64 0,.slice none 0 0,.int .i64 0,.slice none 0 0,.int .i64 0,.int .i64 0,.string ⟨#[]⟩,.int .i64 0,.string ⟨#[]⟩]/\Blk w7 wr.heap.size 37 #[.int .i64 n,.slice none 0 0,.slice none 0 0,.slice none 0 0,.int .i64 0,.slice none 0 0,.int .i64 0,.slice none 0 0,.int .i64 0,.int .i64 0,.string ⟨#[]⟩,.int .i64 0,.string ⟨#[]⟩]/\Ext wr w7:=
    ⟨_,rfl,KV0.put 0 [.int .i64 n,.slice none 0 0,.slice none 0 0,.slice none 0 0,.int .i64 0,.slice none 0 0,.int .i64 0,.slice none 0 0,.int .i64 0,.int .i64 0,.string ⟨#[]⟩,.int .i64 0,.string ⟨#[]⟩] #[.int .i64 n,.slice none 0 0,.slice none 0 0,.slice none 0 0,.int .i64 0,.slice none 0 0,.int .i64 0,.slice none 0 0,.int .i64 0,.int .i64 0,.string ⟨#[]⟩,.int .i64 0,.string ⟨#[]⟩] (by simp) rfl,Qaa (W:=wr) (g:=wr.heap.size) (Nat.le_refl _) [.int .i64 n,.slice none 0 0,.slice none 0 0,.slice none 0 0,.int .i64 0,.slice none 0 0,.int .i64 0,.slice none 0 0,.int .i64 0,.int .i64 0,.string ⟨#[]⟩,.int .i64 0,.string ⟨#[]⟩] 0 _ (Ext.new (Below.refl _ _) _)⟩
   have T4:=hU (KV0.there 0 13 (by simp))
   have HW:=hU hw7
   have KB:=KBH.out.ext hx;have KT:=KTH.out.ext hx
   have hRV:gR<wr.heap.size:=KBH.out.lt
   have hTV:gT<wr.heap.size:=KTH.out.lt
   replace RL:=hU (Qbj.ext RL.out hx);replace he:=he.next hx
   clear hw7 hx KV0 KO r0 r1 r2 KBH KTH
   go_upto_region 14 with(refine Qac rfl 37 _ _ rfl rfl wr.heap.size 0 [.int .i64 n,.slice none 0 0,.slice none 0 0,.slice none 0 0,.int .i64 0,.slice none 0 0,.int .i64 0,.slice none 0 0,.int .i64 0,.int .i64 0,.string ⟨#[]⟩,.int .i64 0,.string ⟨#[]⟩] rfl rfl T4.out (by kernel_rfl) (by rfl) ?_;rw[<-HW.out])
   obtain⟨gV,hgV⟩:∃ gV,gV=wr.heap.size:=⟨_,rfl⟩
   rw[<-hgV] at KV hRV hTV
   rw[<-hgV]
   clear hgV T4 HW HE0
   obtain⟨tc,tf⟩:=KT.rules
   have CL:=hU (Qqs A0 c0 F0 _ (Qbb.of_own (c:=c0) (RL.out.tail.head)) (by omega) FS0.out)
   go_wp2_with fail
   refine CL.out.mono ?_
   rintro e w8 ⟨h1,⟨ha,rfl⟩|⟨ha,u,rfl,hown⟩⟩
   · skip
     replace KB:=KB.ext h1;replace KT:=KT.ext h1;replace KV:=KV.ext h1;replace RL:=hU (Qbj.ext RL.out h1);replace he:=he.next h1
     clear h1 tc tf CL
     obtain⟨w9,hw,KV2,KB2,KT2,RL2,he2⟩:∃ w9,w9=w8.setCell ⟨gV,1,none⟩ (.slice none 0 0)/\Blk w9 gV 37 #[.int .i64 n,.slice none 0 0,.slice none 0 0,.slice none 0 0,.int .i64 0,.slice none 0 0,.int .i64 0,.slice none 0 0,.int .i64 0,.int .i64 0,.string ⟨#[]⟩,.int .i64 0,.string ⟨#[]⟩]/\Blk w9 gR 37 #[.int .i64 0,.slice none 0 0,.slice none 0 0,.slice none 0 0,.int .i64 0,.slice none 0 0,.int .i64 0,.slice none 0 0,.int .i64 0,.int .i64 0,.string ⟨#[]⟩,.int .i64 0,.string ⟨#[]⟩]/\Blk w9 gT 112 #[.slice A0 F0.length c0,.slice A1 F1.length c1,.slice A2 F2.length c2]/\Qbj w.heap.size w9 [(50,3,.slice V dm.length cv,dm.length,dm.flatMap Qbs.cells),(9,1,.slice A0 F0.length c0,F0.length,F0.flatMap sone),(9,1,.slice A1 F1.length c1,F1.length,F1.flatMap sone),(9,1,.slice A2 F2.length c2,F2.length,F2.flatMap sone)]/\Ext w w9:=by
      have hf:=Frm.setCells (Frm.refl (fun b=>b=gV) w8) (g:=gV) (fun _=>rfl) [.slice none 0 0] 1
      exact⟨_,rfl,KV.put 1 [.slice none 0 0] #[.int .i64 n,.slice none 0 0,.slice none 0 0,.slice none 0 0,.int .i64 0,.slice none 0 0,.int .i64 0,.slice none 0 0,.int .i64 0,.int .i64 0,.string ⟨#[]⟩,.int .i64 0,.string ⟨#[]⟩] (by simp) rfl,hf.blk KB (by omega),hf.blk KT (by omega),Qbj.put RL.out KV (by simp) [.slice none 0 0] 1,hf.toExt he (fun y hy e=>by have:=hRV;have:=HgR.out;omega)⟩
     have HW:=hU hw
     have T4:=hU (KV.there 1 1 (by simp))
     obtain⟨rv,fv⟩:=KV.rules
     clear hw
     go_upto_region 16 with fail
     rw[<-HW.out]
     clear HW T4 rv fv KV KB KT RL he
     have KV:=KV2;have KB:=KB2;have KT:=KT2;have RL:=hU RL2;have he:=he2
     clear KV2 KB2 KT2 RL2 he2
     have E:=hU (re2 Hy.out (by rw[<-HF0.out,ha];rfl))
     obtain⟨wz,hw,hz,hx⟩:∃ wz,wz=w9.setCells gR 0 [.int .i64 0,.slice none 0 0,.slice none 0 0,.slice none 0 0,.int .i64 0,.slice none 0 0,.int .i64 0,.slice none 0 0,.int .i64 0,.int .i64 0,.string ⟨#[]⟩,.int .i64 0,.string ⟨#[]⟩]/\Blk wz gR 37 #[.int .i64 0,.slice none 0 0,.slice none 0 0,.slice none 0 0,.int .i64 0,.slice none 0 0,.int .i64 0,.slice none 0 0,.int .i64 0,.int .i64 0,.string ⟨#[]⟩,.int .i64 0,.string ⟨#[]⟩]/\Ext w wz:=⟨_,rfl,KB.put 0 [.int .i64 0,.slice none 0 0,.slice none 0 0,.slice none 0 0,.int .i64 0,.slice none 0 0,.int .i64 0,.slice none 0 0,.int .i64 0,.int .i64 0,.string ⟨#[]⟩,.int .i64 0,.string ⟨#[]⟩] #[.int .i64 0,.slice none 0 0,.slice none 0 0,.slice none 0 0,.int .i64 0,.slice none 0 0,.int .i64 0,.slice none 0 0,.int .i64 0,.int .i64 0,.string ⟨#[]⟩,.int .i64 0,.string ⟨#[]⟩] (by simp) rfl,Qaa (W:=w) (g:=gR) (by have:=HgR.out;omega) [.int .i64 0,.slice none 0 0,.slice none 0 0,.slice none 0 0,.int .i64 0,.slice none 0 0,.int .i64 0,.slice none 0 0,.int .i64 0,.int .i64 0,.string ⟨#[]⟩,.int .i64 0,.string ⟨#[]⟩] 0 _ he⟩
     have HW:=hU hw;have T4:=hU (KB.there 0 13 (by simp));have Z4:=hU hz;have X4:=hU hx
     clear hw hz hx
     go_wp2_with (refine Qac rfl 37 _ _ rfl rfl gR 0 [.int .i64 0,.slice none 0 0,.slice none 0 0,.slice none 0 0,.int .i64 0,.slice none 0 0,.int .i64 0,.slice none 0 0,.int .i64 0,.int .i64 0,.string ⟨#[]⟩,.int .i64 0,.string ⟨#[]⟩] rfl rfl T4.out (by kernel_rfl) (by rfl) ?_;rw[<-HW.out])
     exact Qc2 rfl rfl Z4.out Tryz.underlying37 rfl (by kernel_rfl) rfl (Qlc.bad E.out (by decide) rfl (World.ownsRow_nil _ _ _ _) X4.out)
   · skip
     have hown2:w8.ownsRow w.heap.size 40 5 u b0.log.entries.length (b0.log.entries.flatMap Qaf.cells):=by
      have:=Qaj hown he.size
      rw[HBE.out]
      simpa using this
     replace KB:=KB.ext h1;replace KT:=KT.ext h1;replace KV:=KV.ext h1;replace RL:=hU (Qbj.ext RL.out h1);replace he:=he.next h1
     clear h1 tc tf CL hown
     obtain⟨EA,Ec,rfl,_⟩:=Qlj hown2
     replace RL:=hU (Qbj.cons hown2 RL.out)
     clear hown2
     obtain⟨w9,hw,KV2,KB2,KT2,RL2,he2⟩:∃ w9,w9=w8.setCell ⟨gV,1,none⟩ (.slice EA b0.log.entries.length Ec)/\Blk w9 gV 37 #[.int .i64 n,.slice EA b0.log.entries.length Ec,.slice none 0 0,.slice none 0 0,.int .i64 0,.slice none 0 0,.int .i64 0,.slice none 0 0,.int .i64 0,.int .i64 0,.string ⟨#[]⟩,.int .i64 0,.string ⟨#[]⟩]/\Blk w9 gR 37 #[.int .i64 0,.slice none 0 0,.slice none 0 0,.slice none 0 0,.int .i64 0,.slice none 0 0,.int .i64 0,.slice none 0 0,.int .i64 0,.int .i64 0,.string ⟨#[]⟩,.int .i64 0,.string ⟨#[]⟩]/\Blk w9 gT 112 #[.slice A0 F0.length c0,.slice A1 F1.length c1,.slice A2 F2.length c2]/\Qbj w.heap.size w9 [(40,5,.slice EA b0.log.entries.length Ec,b0.log.entries.length,b0.log.entries.flatMap Qaf.cells),(50,3,.slice V dm.length cv,dm.length,dm.flatMap Qbs.cells),(9,1,.slice A0 F0.length c0,F0.length,F0.flatMap sone),(9,1,.slice A1 F1.length c1,F1.length,F1.flatMap sone),(9,1,.slice A2 F2.length c2,F2.length,F2.flatMap sone)]/\Ext w w9:=by
      have hf:=Frm.setCells (Frm.refl (fun b=>b=gV) w8) (g:=gV) (fun _=>rfl) [.slice EA b0.log.entries.length Ec] 1
      exact⟨_,rfl,KV.put 1 [.slice EA b0.log.entries.length Ec] #[.int .i64 n,.slice EA b0.log.entries.length Ec,.slice none 0 0,.slice none 0 0,.int .i64 0,.slice none 0 0,.int .i64 0,.slice none 0 0,.int .i64 0,.int .i64 0,.string ⟨#[]⟩,.int .i64 0,.string ⟨#[]⟩] (by simp) rfl,hf.blk KB (by omega),hf.blk KT (by omega),Qbj.put RL.out KV (by simp) [.slice EA b0.log.entries.length Ec] 1,hf.toExt he (fun y hy e=>by have:=hRV;have:=HgR.out;omega)⟩
     have HW:=hU hw
     have T4:=hU (KV.there 1 1 (by simp))
     obtain⟨rv,fv⟩:=KV.rules
     clear hw
     go_upto_region 16 with fail
     rw[<-HW.out]
     clear HW T4 rv fv KV KB KT RL he
     have KV:=KV2;have KB:=KB2;have KT:=KT2;have RL:=hU RL2;have he:=he2
     clear KV2 KB2 KT2 RL2 he2
     obtain⟨rv,fv⟩:=KV.rules
     have CL:=hU (Qko EA Ec b0.log.entries _ (Qb6 (RL.out.head)) (fun x hx=>by rw[HBE.out] at hx;obtain⟨y,hy,rfl⟩:=List.mem_map.1 hx;exact Qwx y (FS0.out y hy)))
     go_wp2_with fail
     refine CL.out.mono ?_
     rintro e w10 ⟨rfl,h1⟩
     replace KB:=KB.ext h1;replace KT:=KT.ext h1;replace KV:=KV.ext h1;replace RL:=hU (Qbj.ext RL.out h1);replace he:=he.next h1
     clear h1 rv fv CL
     cases lk:Qgj b0.log.entries
     · skip
       have E:=hU (re2 Hy.out (by rw[<-HF0.out,ha,<-HB0.out,lk];rfl))
       obtain⟨wz,hw,hz,hx⟩:∃ wz,wz=w10.setCells gR 0 [.int .i64 0,.slice none 0 0,.slice none 0 0,.slice none 0 0,.int .i64 0,.slice none 0 0,.int .i64 0,.slice none 0 0,.int .i64 0,.int .i64 0,.string ⟨#[]⟩,.int .i64 0,.string ⟨#[]⟩]/\Blk wz gR 37 #[.int .i64 0,.slice none 0 0,.slice none 0 0,.slice none 0 0,.int .i64 0,.slice none 0 0,.int .i64 0,.slice none 0 0,.int .i64 0,.int .i64 0,.string ⟨#[]⟩,.int .i64 0,.string ⟨#[]⟩]/\Ext w wz:=⟨_,rfl,KB.put 0 [.int .i64 0,.slice none 0 0,.slice none 0 0,.slice none 0 0,.int .i64 0,.slice none 0 0,.int .i64 0,.slice none 0 0,.int .i64 0,.int .i64 0,.string ⟨#[]⟩,.int .i64 0,.string ⟨#[]⟩] #[.int .i64 0,.slice none 0 0,.slice none 0 0,.slice none 0 0,.int .i64 0,.slice none 0 0,.int .i64 0,.slice none 0 0,.int .i64 0,.int .i64 0,.string ⟨#[]⟩,.int .i64 0,.string ⟨#[]⟩] (by simp) rfl,Qaa (W:=w) (g:=gR) (by have:=HgR.out;omega) [.int .i64 0,.slice none 0 0,.slice none 0 0,.slice none 0 0,.int .i64 0,.slice none 0 0,.int .i64 0,.slice none 0 0,.int .i64 0,.int .i64 0,.string ⟨#[]⟩,.int .i64 0,.string ⟨#[]⟩] 0 _ he⟩
       have HW:=hU hw;have T4:=hU (KB.there 0 13 (by simp));have Z4:=hU hz;have X4:=hU hx
       clear hw hz hx
       go_wp2_with (refine Qac rfl 37 _ _ rfl rfl gR 0 [.int .i64 0,.slice none 0 0,.slice none 0 0,.slice none 0 0,.int .i64 0,.slice none 0 0,.int .i64 0,.slice none 0 0,.int .i64 0,.int .i64 0,.string ⟨#[]⟩,.int .i64 0,.string ⟨#[]⟩] rfl rfl T4.out (by kernel_rfl) (by rfl) ?_;rw[<-HW.out])
       exact Qc2 rfl rfl Z4.out Tryz.underlying37 rfl (by kernel_rfl) rfl (Qlc.bad E.out (by decide) rfl (World.ownsRow_nil _ _ _ _) X4.out)
     · skip
       have G1:=hU (show((Qbe l 0).all Qc7&&Qgj (reB0 n l).log.entries)=true by rw[<-HF0.out,ha,<-HB0.out,lk];rfl)
       clear lk ha
       obtain⟨tc,tf⟩:=KT.rules
       have CL:=hU (Qoq A2 c2 F2 _ (Qbb.of_own (c:=c2) (RL.out.tail.tail.tail.tail.head)) (by omega) FS2.out)
       go_wp2_with fail
       refine CL.out.mono ?_
       rintro e w11 ⟨h1,⟨ha,rfl⟩|⟨ha,u,rfl,hown⟩⟩
       · skip
         replace KB:=KB.ext h1;replace KT:=KT.ext h1;replace KV:=KV.ext h1;replace RL:=hU (Qbj.ext RL.out h1);replace he:=he.next h1
         clear h1 tc tf CL
         obtain⟨w12,hw,KV2,KB2,KT2,RL2,he2⟩:∃ w12,w12=w11.setCell ⟨gV,2,none⟩ (.slice none 0 0)/\Blk w12 gV 37 #[.int .i64 n,.slice EA b0.log.entries.length Ec,.slice none 0 0,.slice none 0 0,.int .i64 0,.slice none 0 0,.int .i64 0,.slice none 0 0,.int .i64 0,.int .i64 0,.string ⟨#[]⟩,.int .i64 0,.string ⟨#[]⟩]/\Blk w12 gR 37 #[.int .i64 0,.slice none 0 0,.slice none 0 0,.slice none 0 0,.int .i64 0,.slice none 0 0,.int .i64 0,.slice none 0 0,.int .i64 0,.int .i64 0,.string ⟨#[]⟩,.int .i64 0,.string ⟨#[]⟩]/\Blk w12 gT 112 #[.slice A0 F0.length c0,.slice A1 F1.length c1,.slice A2 F2.length c2]/\Qbj w.heap.size w12 [(40,5,.slice EA b0.log.entries.length Ec,b0.log.entries.length,b0.log.entries.flatMap Qaf.cells),(50,3,.slice V dm.length cv,dm.length,dm.flatMap Qbs.cells),(9,1,.slice A0 F0.length c0,F0.length,F0.flatMap sone),(9,1,.slice A1 F1.length c1,F1.length,F1.flatMap sone),(9,1,.slice A2 F2.length c2,F2.length,F2.flatMap sone)]/\Ext w w12:=by
          have hf:=Frm.setCells (Frm.refl (fun b=>b=gV) w11) (g:=gV) (fun _=>rfl) [.slice none 0 0] 2
          exact⟨_,rfl,KV.put 2 [.slice none 0 0] #[.int .i64 n,.slice EA b0.log.entries.length Ec,.slice none 0 0,.slice none 0 0,.int .i64 0,.slice none 0 0,.int .i64 0,.slice none 0 0,.int .i64 0,.int .i64 0,.string ⟨#[]⟩,.int .i64 0,.string ⟨#[]⟩] (by simp) rfl,hf.blk KB (by omega),hf.blk KT (by omega),Qbj.put RL.out KV (by simp) [.slice none 0 0] 2,hf.toExt he (fun y hy e=>by have:=hRV;have:=HgR.out;omega)⟩
         have HW:=hU hw
         have T4:=hU (KV.there 2 1 (by simp))
         obtain⟨rv,fv⟩:=KV.rules
         clear hw
         go_upto_region 19 with fail
         rw[<-HW.out]
         clear HW T4 rv fv KV KB KT RL he
         have KV:=KV2;have KB:=KB2;have KT:=KT2;have RL:=hU RL2;have he:=he2
         clear KV2 KB2 KT2 RL2 he2
         have E:=hU (re3 Hy.out G1.out (by rw[<-HF2.out,ha];rfl))
         obtain⟨wz,hw,hz,hx⟩:∃ wz,wz=w12.setCells gR 0 [.int .i64 0,.slice none 0 0,.slice none 0 0,.slice none 0 0,.int .i64 0,.slice none 0 0,.int .i64 0,.slice none 0 0,.int .i64 0,.int .i64 0,.string ⟨#[]⟩,.int .i64 0,.string ⟨#[]⟩]/\Blk wz gR 37 #[.int .i64 0,.slice none 0 0,.slice none 0 0,.slice none 0 0,.int .i64 0,.slice none 0 0,.int .i64 0,.slice none 0 0,.int .i64 0,.int .i64 0,.string ⟨#[]⟩,.int .i64 0,.string ⟨#[]⟩]/\Ext w wz:=⟨_,rfl,KB.put 0 [.int .i64 0,.slice none 0 0,.slice none 0 0,.slice none 0 0,.int .i64 0,.slice none 0 0,.int .i64 0,.slice none 0 0,.int .i64 0,.int .i64 0,.string ⟨#[]⟩,.int .i64 0,.string ⟨#[]⟩] #[.int .i64 0,.slice none 0 0,.slice none 0 0,.slice none 0 0,.int .i64 0,.slice none 0 0,.int .i64 0,.slice none 0 0,.int .i64 0,.int .i64 0,.string ⟨#[]⟩,.int .i64 0,.string ⟨#[]⟩] (by simp) rfl,Qaa (W:=w) (g:=gR) (by have:=HgR.out;omega) [.int .i64 0,.slice none 0 0,.slice none 0 0,.slice none 0 0,.int .i64 0,.slice none 0 0,.int .i64 0,.slice none 0 0,.int .i64 0,.int .i64 0,.string ⟨#[]⟩,.int .i64 0,.string ⟨#[]⟩] 0 _ he⟩
         have HW:=hU hw;have T4:=hU (KB.there 0 13 (by simp));have Z4:=hU hz;have X4:=hU hx
         clear hw hz hx
         go_wp2_with (refine Qac rfl 37 _ _ rfl rfl gR 0 [.int .i64 0,.slice none 0 0,.slice none 0 0,.slice none 0 0,.int .i64 0,.slice none 0 0,.int .i64 0,.slice none 0 0,.int .i64 0,.int .i64 0,.string ⟨#[]⟩,.int .i64 0,.string ⟨#[]⟩] rfl rfl T4.out (by kernel_rfl) (by rfl) ?_;rw[<-HW.out])
         exact Qc2 rfl rfl Z4.out Tryz.underlying37 rfl (by kernel_rfl) rfl (Qlc.bad E.out (by decide) rfl (World.ownsRow_nil _ _ _ _) X4.out)
       · skip
         have hown2:w11.ownsRow w.heap.size 42 3 u b0.receipts.length (b0.receipts.flatMap Qab.cells):=by
          have:=Qaj hown he.size
          rw[HBR.out]
          simpa using this
         replace KB:=KB.ext h1;replace KT:=KT.ext h1;replace KV:=KV.ext h1;replace RL:=hU (Qbj.ext RL.out h1);replace he:=he.next h1
         clear h1 tc tf CL hown
         obtain⟨RA,Rc,rfl,_⟩:=Qlj hown2
         replace RL:=hU (Qbj.cons hown2 RL.out)
         clear hown2
         obtain⟨w12,hw,KV2,KB2,KT2,RL2,he2⟩:∃ w12,w12=w11.setCell ⟨gV,2,none⟩ (.slice RA b0.receipts.length Rc)/\Blk w12 gV 37 #[.int .i64 n,.slice EA b0.log.entries.length Ec,.slice RA b0.receipts.length Rc,.slice none 0 0,.int .i64 0,.slice none 0 0,.int .i64 0,.slice none 0 0,.int .i64 0,.int .i64 0,.string ⟨#[]⟩,.int .i64 0,.string ⟨#[]⟩]/\Blk w12 gR 37 #[.int .i64 0,.slice none 0 0,.slice none 0 0,.slice none 0 0,.int .i64 0,.slice none 0 0,.int .i64 0,.slice none 0 0,.int .i64 0,.int .i64 0,.string ⟨#[]⟩,.int .i64 0,.string ⟨#[]⟩]/\Blk w12 gT 112 #[.slice A0 F0.length c0,.slice A1 F1.length c1,.slice A2 F2.length c2]/\Qbj w.heap.size w12 [(42,3,.slice RA b0.receipts.length Rc,b0.receipts.length,b0.receipts.flatMap Qab.cells),(40,5,.slice EA b0.log.entries.length Ec,b0.log.entries.length,b0.log.entries.flatMap Qaf.cells),(50,3,.slice V dm.length cv,dm.length,dm.flatMap Qbs.cells),(9,1,.slice A0 F0.length c0,F0.length,F0.flatMap sone),(9,1,.slice A1 F1.length c1,F1.length,F1.flatMap sone),(9,1,.slice A2 F2.length c2,F2.length,F2.flatMap sone)]/\Ext w w12:=by
          have hf:=Frm.setCells (Frm.refl (fun b=>b=gV) w11) (g:=gV) (fun _=>rfl) [.slice RA b0.receipts.length Rc] 2
          exact⟨_,rfl,KV.put 2 [.slice RA b0.receipts.length Rc] #[.int .i64 n,.slice EA b0.log.entries.length Ec,.slice RA b0.receipts.length Rc,.slice none 0 0,.int .i64 0,.slice none 0 0,.int .i64 0,.slice none 0 0,.int .i64 0,.int .i64 0,.string ⟨#[]⟩,.int .i64 0,.string ⟨#[]⟩] (by simp) rfl,hf.blk KB (by omega),hf.blk KT (by omega),Qbj.put RL.out KV (by simp) [.slice RA b0.receipts.length Rc] 2,hf.toExt he (fun y hy e=>by have:=hRV;have:=HgR.out;omega)⟩
         have HW:=hU hw
         have T4:=hU (KV.there 2 1 (by simp))
         obtain⟨rv,fv⟩:=KV.rules
         clear hw
         go_upto_region 19 with fail
         rw[<-HW.out]
         clear HW T4 rv fv KV KB KT RL he
         have KV:=KV2;have KB:=KB2;have KT:=KT2;have RL:=hU RL2;have he:=he2
         clear KV2 KB2 KT2 RL2 he2
         obtain⟨rv,fv⟩:=KV.rules
         have CL:=hU (Qgp RA Rc b0.receipts _ (Qb6 (RL.out.head)) (fun x hx=>by rw[HBR.out] at hx;obtain⟨y,hy,rfl⟩:=List.mem_map.1 hx;exact Qwt y (FS2.out y hy)))
         go_wp2_with fail
         refine CL.out.mono ?_
         rintro e w13 ⟨rfl,h1⟩
         replace KB:=KB.ext h1;replace KT:=KT.ext h1;replace KV:=KV.ext h1;replace RL:=hU (Qbj.ext RL.out h1);replace he:=he.next h1
         clear h1 rv fv CL
         cases lk:Qdx b0.receipts
         · skip
           have E:=hU (re3 Hy.out G1.out (by rw[<-HF2.out,ha,<-HB0.out,lk];rfl))
           obtain⟨wz,hw,hz,hx⟩:∃ wz,wz=w13.setCells gR 0 [.int .i64 0,.slice none 0 0,.slice none 0 0,.slice none 0 0,.int .i64 0,.slice none 0 0,.int .i64 0,.slice none 0 0,.int .i64 0,.int .i64 0,.string ⟨#[]⟩,.int .i64 0,.string ⟨#[]⟩]/\Blk wz gR 37 #[.int .i64 0,.slice none 0 0,.slice none 0 0,.slice none 0 0,.int .i64 0,.slice none 0 0,.int .i64 0,.slice none 0 0,.int .i64 0,.int .i64 0,.string ⟨#[]⟩,.int .i64 0,.string ⟨#[]⟩]/\Ext w wz:=⟨_,rfl,KB.put 0 [.int .i64 0,.slice none 0 0,.slice none 0 0,.slice none 0 0,.int .i64 0,.slice none 0 0,.int .i64 0,.slice none 0 0,.int .i64 0,.int .i64 0,.string ⟨#[]⟩,.int .i64 0,.string ⟨#[]⟩] #[.int .i64 0,.slice none 0 0,.slice none 0 0,.slice none 0 0,.int .i64 0,.slice none 0 0,.int .i64 0,.slice none 0 0,.int .i64 0,.int .i64 0,.string ⟨#[]⟩,.int .i64 0,.string ⟨#[]⟩] (by simp) rfl,Qaa (W:=w) (g:=gR) (by have:=HgR.out;omega) [.int .i64 0,.slice none 0 0,.slice none 0 0,.slice none 0 0,.int .i64 0,.slice none 0 0,.int .i64 0,.slice none 0 0,.int .i64 0,.int .i64 0,.string ⟨#[]⟩,.int .i64 0,.string ⟨#[]⟩] 0 _ he⟩
           have HW:=hU hw;have T4:=hU (KB.there 0 13 (by simp));have Z4:=hU hz;have X4:=hU hx
           clear hw hz hx
           go_wp2_with (refine Qac rfl 37 _ _ rfl rfl gR 0 [.int .i64 0,.slice none 0 0,.slice none 0 0,.slice none 0 0,.int .i64 0,.slice none 0 0,.int .i64 0,.slice none 0 0,.int .i64 0,.int .i64 0,.string ⟨#[]⟩,.int .i64 0,.string ⟨#[]⟩] rfl rfl T4.out (by kernel_rfl) (by rfl) ?_;rw[<-HW.out])
           exact Qc2 rfl rfl Z4.out Tryz.underlying37 rfl (by kernel_rfl) rfl (Qlc.bad E.out (by decide) rfl (World.ownsRow_nil _ _ _ _) X4.out)
         · skip
           have G2:=hU (show((Qbe l 2).all Qdf&&Qdx (reB0 n l).receipts)=true by rw[<-HF2.out,ha,<-HB0.out,lk];rfl)
           clear lk ha
           obtain⟨tc,tf⟩:=KT.rules
           have CL:=hU (Qtb n A1 c1 F1 _ (Qbb.of_own (c:=c1) (RL.out.tail.tail.tail.tail.head)) (by omega) FS1.out)
           go_wp2_with fail
           refine CL.out.mono ?_
           rintro e w14 ⟨h1,⟨ha,rfl⟩|⟨ha,u,rfl,hown⟩⟩
           · skip
             replace KB:=KB.ext h1;replace KT:=KT.ext h1;replace KV:=KV.ext h1;replace RL:=hU (Qbj.ext RL.out h1);replace he:=he.next h1
             clear h1 tc tf CL
             obtain⟨w15,hw,KV2,KB2,KT2,RL2,he2⟩:∃ w15,w15=w14.setCell ⟨gV,3,none⟩ (.slice none 0 0)/\Blk w15 gV 37 #[.int .i64 n,.slice EA b0.log.entries.length Ec,.slice RA b0.receipts.length Rc,.slice none 0 0,.int .i64 0,.slice none 0 0,.int .i64 0,.slice none 0 0,.int .i64 0,.int .i64 0,.string ⟨#[]⟩,.int .i64 0,.string ⟨#[]⟩]/\Blk w15 gR 37 #[.int .i64 0,.slice none 0 0,.slice none 0 0,.slice none 0 0,.int .i64 0,.slice none 0 0,.int .i64 0,.slice none 0 0,.int .i64 0,.int .i64 0,.string ⟨#[]⟩,.int .i64 0,.string ⟨#[]⟩]/\Blk w15 gT 112 #[.slice A0 F0.length c0,.slice A1 F1.length c1,.slice A2 F2.length c2]/\Qbj w.heap.size w15 [(42,3,.slice RA b0.receipts.length Rc,b0.receipts.length,b0.receipts.flatMap Qab.cells),(40,5,.slice EA b0.log.entries.length Ec,b0.log.entries.length,b0.log.entries.flatMap Qaf.cells),(50,3,.slice V dm.length cv,dm.length,dm.flatMap Qbs.cells),(9,1,.slice A0 F0.length c0,F0.length,F0.flatMap sone),(9,1,.slice A1 F1.length c1,F1.length,F1.flatMap sone),(9,1,.slice A2 F2.length c2,F2.length,F2.flatMap sone)]/\Ext w w15:=by
              have hf:=Frm.setCells (Frm.refl (fun b=>b=gV) w14) (g:=gV) (fun _=>rfl) [.slice none 0 0] 3
              exact⟨_,rfl,KV.put 3 [.slice none 0 0] #[.int .i64 n,.slice EA b0.log.entries.length Ec,.slice RA b0.receipts.length Rc,.slice none 0 0,.int .i64 0,.slice none 0 0,.int .i64 0,.slice none 0 0,.int .i64 0,.int .i64 0,.string ⟨#[]⟩,.int .i64 0,.string ⟨#[]⟩] (by simp) rfl,hf.blk KB (by omega),hf.blk KT (by omega),Qbj.put RL.out KV (by simp) [.slice none 0 0] 3,hf.toExt he (fun y hy e=>by have:=hRV;have:=HgR.out;omega)⟩
             have HW:=hU hw
             have T4:=hU (KV.there 3 1 (by simp))
             obtain⟨rv,fv⟩:=KV.rules
             clear hw
             go_upto_region 22 with fail
             rw[<-HW.out]
             clear HW T4 rv fv KV KB KT RL he
             have KV:=KV2;have KB:=KB2;have KT:=KT2;have RL:=hU RL2;have he:=he2
             clear KV2 KB2 KT2 RL2 he2
             have E:=hU (re4 Hy.out G1.out G2.out (by rw[<-HF1.out,ha];rfl))
             obtain⟨wz,hw,hz,hx⟩:∃ wz,wz=w15.setCells gR 0 [.int .i64 0,.slice none 0 0,.slice none 0 0,.slice none 0 0,.int .i64 0,.slice none 0 0,.int .i64 0,.slice none 0 0,.int .i64 0,.int .i64 0,.string ⟨#[]⟩,.int .i64 0,.string ⟨#[]⟩]/\Blk wz gR 37 #[.int .i64 0,.slice none 0 0,.slice none 0 0,.slice none 0 0,.int .i64 0,.slice none 0 0,.int .i64 0,.slice none 0 0,.int .i64 0,.int .i64 0,.string ⟨#[]⟩,.int .i64 0,.string ⟨#[]⟩]/\Ext w wz:=⟨_,rfl,KB.put 0 [.int .i64 0,.slice none 0 0,.slice none 0 0,.slice none 0 0,.int .i64 0,.slice none 0 0,.int .i64 0,.slice none 0 0,.int .i64 0,.int .i64 0,.string ⟨#[]⟩,.int .i64 0,.string ⟨#[]⟩] #[.int .i64 0,.slice none 0 0,.slice none 0 0,.slice none 0 0,.int .i64 0,.slice none 0 0,.int .i64 0,.slice none 0 0,.int .i64 0,.int .i64 0,.string ⟨#[]⟩,.int .i64 0,.string ⟨#[]⟩] (by simp) rfl,Qaa (W:=w) (g:=gR) (by have:=HgR.out;omega) [.int .i64 0,.slice none 0 0,.slice none 0 0,.slice none 0 0,.int .i64 0,.slice none 0 0,.int .i64 0,.slice none 0 0,.int .i64 0,.int .i64 0,.string ⟨#[]⟩,.int .i64 0,.string ⟨#[]⟩] 0 _ he⟩
             have HW:=hU hw;have T4:=hU (KB.there 0 13 (by simp));have Z4:=hU hz;have X4:=hU hx
             clear hw hz hx
             go_wp2_with (refine Qac rfl 37 _ _ rfl rfl gR 0 [.int .i64 0,.slice none 0 0,.slice none 0 0,.slice none 0 0,.int .i64 0,.slice none 0 0,.int .i64 0,.slice none 0 0,.int .i64 0,.int .i64 0,.string ⟨#[]⟩,.int .i64 0,.string ⟨#[]⟩] rfl rfl T4.out (by kernel_rfl) (by rfl) ?_;rw[<-HW.out])
             exact Qc2 rfl rfl Z4.out Tryz.underlying37 rfl (by kernel_rfl) rfl (Qlc.bad E.out (by decide) rfl (World.ownsRow_nil _ _ _ _) X4.out)
           · skip
             have hown2:w14.ownsRow w.heap.size 33 5 u b0.heads.length (b0.heads.flatMap Qak.cells):=by
              have:=Qaj hown he.size
              rw[B1.out] at this
              rw[HBH.out]
              simpa using this
             replace KB:=KB.ext h1;replace KT:=KT.ext h1;replace KV:=KV.ext h1;replace RL:=hU (Qbj.ext RL.out h1);replace he:=he.next h1
             clear h1 tc tf CL hown
             obtain⟨HA,Hc,rfl,_⟩:=Qlj hown2
             replace RL:=hU (Qbj.cons hown2 RL.out)
             clear hown2
             obtain⟨w15,hw,KV2,KB2,KT2,RL2,he2⟩:∃ w15,w15=w14.setCell ⟨gV,3,none⟩ (.slice HA b0.heads.length Hc)/\Blk w15 gV 37 #[.int .i64 n,.slice EA b0.log.entries.length Ec,.slice RA b0.receipts.length Rc,.slice HA b0.heads.length Hc,.int .i64 0,.slice none 0 0,.int .i64 0,.slice none 0 0,.int .i64 0,.int .i64 0,.string ⟨#[]⟩,.int .i64 0,.string ⟨#[]⟩]/\Blk w15 gR 37 #[.int .i64 0,.slice none 0 0,.slice none 0 0,.slice none 0 0,.int .i64 0,.slice none 0 0,.int .i64 0,.slice none 0 0,.int .i64 0,.int .i64 0,.string ⟨#[]⟩,.int .i64 0,.string ⟨#[]⟩]/\Blk w15 gT 112 #[.slice A0 F0.length c0,.slice A1 F1.length c1,.slice A2 F2.length c2]/\Qbj w.heap.size w15 [(33,5,.slice HA b0.heads.length Hc,b0.heads.length,b0.heads.flatMap Qak.cells),(42,3,.slice RA b0.receipts.length Rc,b0.receipts.length,b0.receipts.flatMap Qab.cells),(40,5,.slice EA b0.log.entries.length Ec,b0.log.entries.length,b0.log.entries.flatMap Qaf.cells),(50,3,.slice V dm.length cv,dm.length,dm.flatMap Qbs.cells),(9,1,.slice A0 F0.length c0,F0.length,F0.flatMap sone),(9,1,.slice A1 F1.length c1,F1.length,F1.flatMap sone),(9,1,.slice A2 F2.length c2,F2.length,F2.flatMap sone)]/\Ext w w15:=by
              have hf:=Frm.setCells (Frm.refl (fun b=>b=gV) w14) (g:=gV) (fun _=>rfl) [.slice HA b0.heads.length Hc] 3
              exact⟨_,rfl,KV.put 3 [.slice HA b0.heads.length Hc] #[.int .i64 n,.slice EA b0.log.entries.length Ec,.slice RA b0.receipts.length Rc,.slice HA b0.heads.length Hc,.int .i64 0,.slice none 0 0,.int .i64 0,.slice none 0 0,.int .i64 0,.int .i64 0,.string ⟨#[]⟩,.int .i64 0,.string ⟨#[]⟩] (by simp) rfl,hf.blk KB (by omega),hf.blk KT (by omega),Qbj.put RL.out KV (by simp) [.slice HA b0.heads.length Hc] 3,hf.toExt he (fun y hy e=>by have:=hRV;have:=HgR.out;omega)⟩
             have HW:=hU hw
             have T4:=hU (KV.there 3 1 (by simp))
             obtain⟨rv,fv⟩:=KV.rules
             clear hw
             go_upto_region 22 with fail
             rw[<-HW.out]
             clear HW T4 rv fv KV KB KT RL he
             have KV:=KV2;have KB:=KB2;have KT:=KT2;have RL:=hU RL2;have he:=he2
             clear KV2 KB2 KT2 RL2 he2
             have BC:BrkC w15 gV b0 EA Ec RA Rc HA Hc:=⟨KV.lt,by rw[show b0.width=n by rw[HB0.out];rfl];exact KV.cell 0,KV.cell 1,KV.cell 2,KV.cell 3⟩
             have CL:=hU (Qlz gV b0 EA Ec RA Rc HA Hc w15 BC (Qb6 (RL.out.tail.tail.head)) (Qb6 (RL.out.tail.head)) (Qb6 (RL.out.head)) (fun x hx=>by rw[HBE.out] at hx;obtain⟨y,hy,rfl⟩:=List.mem_map.1 hx;exact Qwx y (FS0.out y hy)) (fun x hx=>by rw[HBR.out] at hx;obtain⟨y,hy,rfl⟩:=List.mem_map.1 hx;exact Qwt y (FS2.out y hy)))
             clear BC
             go_wp2_with fail
             refine CL.out.mono ?_
             rintro e w16 ⟨h1,h⟩
             rcases h with⟨hb,rfl⟩|⟨hb,u1,u2,rfl,q1,q2,ap⟩
             · skip
               replace KB:=KB.ext h1;replace KT:=KT.ext h1;replace KV:=KV.ext h1;replace RL:=hU (Qbj.ext RL.out h1);replace he:=he.next h1
               clear h1 CL
               simp only[Qhu,hz]
               obtain⟨w17,hw,KV2,KB2,KT2,RL2,he2⟩:∃ w17,w17=w16.setCells gV 4 [.int .i64 0,.slice none 0 0,.int .i64 0,.slice none 0 0,.int .i64 0,.int .i64 0,.string ⟨#[]⟩,.int .i64 0,.string ⟨#[]⟩]/\Blk w17 gV 37 #[.int .i64 n,.slice EA b0.log.entries.length Ec,.slice RA b0.receipts.length Rc,.slice HA b0.heads.length Hc,.int .i64 0,.slice none 0 0,.int .i64 0,.slice none 0 0,.int .i64 0,.int .i64 0,.string ⟨#[]⟩,.int .i64 0,.string ⟨#[]⟩]/\Blk w17 gR 37 #[.int .i64 0,.slice none 0 0,.slice none 0 0,.slice none 0 0,.int .i64 0,.slice none 0 0,.int .i64 0,.slice none 0 0,.int .i64 0,.int .i64 0,.string ⟨#[]⟩,.int .i64 0,.string ⟨#[]⟩]/\Blk w17 gT 112 #[.slice A0 F0.length c0,.slice A1 F1.length c1,.slice A2 F2.length c2]/\Qbj w.heap.size w17 [(33,5,.slice HA b0.heads.length Hc,b0.heads.length,b0.heads.flatMap Qak.cells),(42,3,.slice RA b0.receipts.length Rc,b0.receipts.length,b0.receipts.flatMap Qab.cells),(40,5,.slice EA b0.log.entries.length Ec,b0.log.entries.length,b0.log.entries.flatMap Qaf.cells),(50,3,.slice V dm.length cv,dm.length,dm.flatMap Qbs.cells),(9,1,.slice A0 F0.length c0,F0.length,F0.flatMap sone),(9,1,.slice A1 F1.length c1,F1.length,F1.flatMap sone),(9,1,.slice A2 F2.length c2,F2.length,F2.flatMap sone)]/\Ext w w17:=by
                have hf:=Frm.setCells (Frm.refl (fun b=>b=gV) w16) (g:=gV) (fun _=>rfl) [.int .i64 0,.slice none 0 0,.int .i64 0,.slice none 0 0,.int .i64 0,.int .i64 0,.string ⟨#[]⟩,.int .i64 0,.string ⟨#[]⟩] 4
                exact⟨_,rfl,KV.put 4 [.int .i64 0,.slice none 0 0,.int .i64 0,.slice none 0 0,.int .i64 0,.int .i64 0,.string ⟨#[]⟩,.int .i64 0,.string ⟨#[]⟩] #[.int .i64 n,.slice EA b0.log.entries.length Ec,.slice RA b0.receipts.length Rc,.slice HA b0.heads.length Hc,.int .i64 0,.slice none 0 0,.int .i64 0,.slice none 0 0,.int .i64 0,.int .i64 0,.string ⟨#[]⟩,.int .i64 0,.string ⟨#[]⟩] (by simp) rfl,hf.blk KB (by omega),hf.blk KT (by omega),Qbj.put RL.out KV (by simp) [.int .i64 0,.slice none 0 0,.int .i64 0,.slice none 0 0,.int .i64 0,.int .i64 0,.string ⟨#[]⟩,.int .i64 0,.string ⟨#[]⟩] 4,hf.toExt he (fun y hy e=>by have:=hRV;have:=HgR.out;omega)⟩
               have HW:=hU hw
               have T4:=hU (KV.there 4 9 (by simp))
               obtain⟨rv,fv⟩:=KV.rules
               clear hw
               go_upto_region 25 with(refine Qac rfl 35 _ _ rfl rfl gV 4 [.int .i64 0,.slice none 0 0,.int .i64 0,.slice none 0 0,.int .i64 0,.int .i64 0,.string ⟨#[]⟩,.int .i64 0,.string ⟨#[]⟩] rfl rfl T4.out (by kernel_rfl) (by rfl) ?_;rw[<-HW.out])
               clear HW T4 rv fv KV KB KT RL he
               have KV:=KV2;have KB:=KB2;have KT:=KT2;have RL:=hU RL2;have he:=he2
               clear KV2 KB2 KT2 RL2 he2
               have E:=hU (re4 Hy.out G1.out G2.out (by rw[<-HB0.out,hb,Bool.and_false]))
               obtain⟨wz,hw,hz,hx⟩:∃ wz,wz=w17.setCells gR 0 [.int .i64 0,.slice none 0 0,.slice none 0 0,.slice none 0 0,.int .i64 0,.slice none 0 0,.int .i64 0,.slice none 0 0,.int .i64 0,.int .i64 0,.string ⟨#[]⟩,.int .i64 0,.string ⟨#[]⟩]/\Blk wz gR 37 #[.int .i64 0,.slice none 0 0,.slice none 0 0,.slice none 0 0,.int .i64 0,.slice none 0 0,.int .i64 0,.slice none 0 0,.int .i64 0,.int .i64 0,.string ⟨#[]⟩,.int .i64 0,.string ⟨#[]⟩]/\Ext w wz:=⟨_,rfl,KB.put 0 [.int .i64 0,.slice none 0 0,.slice none 0 0,.slice none 0 0,.int .i64 0,.slice none 0 0,.int .i64 0,.slice none 0 0,.int .i64 0,.int .i64 0,.string ⟨#[]⟩,.int .i64 0,.string ⟨#[]⟩] #[.int .i64 0,.slice none 0 0,.slice none 0 0,.slice none 0 0,.int .i64 0,.slice none 0 0,.int .i64 0,.slice none 0 0,.int .i64 0,.int .i64 0,.string ⟨#[]⟩,.int .i64 0,.string ⟨#[]⟩] (by simp) rfl,Qaa (W:=w) (g:=gR) (by have:=HgR.out;omega) [.int .i64 0,.slice none 0 0,.slice none 0 0,.slice none 0 0,.int .i64 0,.slice none 0 0,.int .i64 0,.slice none 0 0,.int .i64 0,.int .i64 0,.string ⟨#[]⟩,.int .i64 0,.string ⟨#[]⟩] 0 _ he⟩
               have HW:=hU hw;have T4:=hU (KB.there 0 13 (by simp));have Z4:=hU hz;have X4:=hU hx
               clear hw hz hx
               go_wp2_with (refine Qac rfl 37 _ _ rfl rfl gR 0 [.int .i64 0,.slice none 0 0,.slice none 0 0,.slice none 0 0,.int .i64 0,.slice none 0 0,.int .i64 0,.slice none 0 0,.int .i64 0,.int .i64 0,.string ⟨#[]⟩,.int .i64 0,.string ⟨#[]⟩] rfl rfl T4.out (by kernel_rfl) (by rfl) ?_;rw[<-HW.out])
               exact Qc2 rfl rfl Z4.out Tryz.underlying37 rfl (by kernel_rfl) rfl (Qlc.bad E.out (by decide) rfl (World.ownsRow_nil _ _ _ _) X4.out)
             · skip
               have GF:=hU (re0 Hy.out G1.out G2.out (by rw[<-HF1.out,ha,<-HB0.out,hb];rfl))
               obtain⟨S,hS⟩:∃ S,S=Qbx b0.width (Qa8 b0.width b0.log.entries) (Qbp b0.width b0.receipts) (Qaw b0.heads):=⟨_,rfl⟩
               have hSh:S.head=Qaw b0.heads:=by rw[hS];rfl
               rw[<-hS] at q1 q2
               rw[<-hS,<-hSh]
               have HS:=hU hS
               have q1':=RowT.ofBase q1 he.size;have q2':=RowT.ofBase q2 he.size
               clear hS hSh hb ha q1 q2
               replace KB:=KB.ext h1;replace KT:=KT.ext h1;replace KV:=KV.ext h1;replace RL:=hU (Qbj.ext RL.out h1);replace he:=he.next h1
               clear h1 CL
               have AP:=hU ap
               obtain⟨PA,pc,rfl,_⟩:=RowT.cells q1'
               obtain⟨QA,qc,rfl,_⟩:=RowT.cells q2'
               replace RL:=hU (Qbj.cons q1' (Qbj.cons q2' RL.out))
               clear q1' q2' ap
               simp only[Qb1]
               obtain⟨w17,hw,KV2,KB2,KT2,RL2,he2⟩:∃ w17,w17=w16.setCells gV 4 [.int .i64 S.leaves.size,.slice PA S.leaves.peaks.length pc,.int .i64 S.taken.size,.slice QA S.taken.peaks.length qc,.int .i64 S.head.number,.int .i64 S.head.size,.string S.head.root,.int .i64 S.head.taken,.string S.head.takenRoot]/\Blk w17 gV 37 #[.int .i64 n,.slice EA b0.log.entries.length Ec,.slice RA b0.receipts.length Rc,.slice HA b0.heads.length Hc,.int .i64 S.leaves.size,.slice PA S.leaves.peaks.length pc,.int .i64 S.taken.size,.slice QA S.taken.peaks.length qc,.int .i64 S.head.number,.int .i64 S.head.size,.string S.head.root,.int .i64 S.head.taken,.string S.head.takenRoot]/\Blk w17 gR 37 #[.int .i64 0,.slice none 0 0,.slice none 0 0,.slice none 0 0,.int .i64 0,.slice none 0 0,.int .i64 0,.slice none 0 0,.int .i64 0,.int .i64 0,.string ⟨#[]⟩,.int .i64 0,.string ⟨#[]⟩]/\Blk w17 gT 112 #[.slice A0 F0.length c0,.slice A1 F1.length c1,.slice A2 F2.length c2]/\Qbj w.heap.size w17 [(9,1,.slice PA S.leaves.peaks.length pc,S.leaves.peaks.length,S.leaves.peaks.flatMap sone),(9,1,.slice QA S.taken.peaks.length qc,S.taken.peaks.length,S.taken.peaks.flatMap sone),(33,5,.slice HA b0.heads.length Hc,b0.heads.length,b0.heads.flatMap Qak.cells),(42,3,.slice RA b0.receipts.length Rc,b0.receipts.length,b0.receipts.flatMap Qab.cells),(40,5,.slice EA b0.log.entries.length Ec,b0.log.entries.length,b0.log.entries.flatMap Qaf.cells),(50,3,.slice V dm.length cv,dm.length,dm.flatMap Qbs.cells),(9,1,.slice A0 F0.length c0,F0.length,F0.flatMap sone),(9,1,.slice A1 F1.length c1,F1.length,F1.flatMap sone),(9,1,.slice A2 F2.length c2,F2.length,F2.flatMap sone)]/\Ext w w17:=by
                have hf:=Frm.setCells (Frm.refl (fun b=>b=gV) w16) (g:=gV) (fun _=>rfl) [.int .i64 S.leaves.size,.slice PA S.leaves.peaks.length pc,.int .i64 S.taken.size,.slice QA S.taken.peaks.length qc,.int .i64 S.head.number,.int .i64 S.head.size,.string S.head.root,.int .i64 S.head.taken,.string S.head.takenRoot] 4
                exact⟨_,rfl,KV.put 4 [.int .i64 S.leaves.size,.slice PA S.leaves.peaks.length pc,.int .i64 S.taken.size,.slice QA S.taken.peaks.length qc,.int .i64 S.head.number,.int .i64 S.head.size,.string S.head.root,.int .i64 S.head.taken,.string S.head.takenRoot] #[.int .i64 n,.slice EA b0.log.entries.length Ec,.slice RA b0.receipts.length Rc,.slice HA b0.heads.length Hc,.int .i64 S.leaves.size,.slice PA S.leaves.peaks.length pc,.int .i64 S.taken.size,.slice QA S.taken.peaks.length qc,.int .i64 S.head.number,.int .i64 S.head.size,.string S.head.root,.int .i64 S.head.taken,.string S.head.takenRoot] (by simp) rfl,hf.blk KB (by omega),hf.blk KT (by omega),Qbj.put RL.out KV (by simp) [.int .i64 S.leaves.size,.slice PA S.leaves.peaks.length pc,.int .i64 S.taken.size,.slice QA S.taken.peaks.length qc,.int .i64 S.head.number,.int .i64 S.head.size,.string S.head.root,.int .i64 S.head.taken,.string S.head.takenRoot] 4,hf.toExt he (fun y hy e=>by have:=hRV;have:=HgR.out;omega)⟩
               have HW:=hU hw
               have T4:=hU (KV.there 4 9 (by simp))
               obtain⟨rv,fv⟩:=KV.rules
               clear hw
               go_upto_region 25 with(refine Qac rfl 35 _ _ rfl rfl gV 4 [.int .i64 S.leaves.size,.slice PA S.leaves.peaks.length pc,.int .i64 S.taken.size,.slice QA S.taken.peaks.length qc,.int .i64 S.head.number,.int .i64 S.head.size,.string S.head.root,.int .i64 S.head.taken,.string S.head.takenRoot] rfl rfl T4.out (by kernel_rfl) (by rfl) ?_;rw[<-HW.out])
               clear HW T4 rv fv KV KB KT RL he
               have KV:=KV2;have KB:=KB2;have KT:=KT2;have RL:=hU RL2;have he:=he2
               clear KV2 KB2 KT2 RL2 he2
               obtain⟨wz,hw,hz,hx,hR⟩:∃ wz,wz=w17.setCells gR 0 [.int .i64 n,.slice EA b0.log.entries.length Ec,.slice RA b0.receipts.length Rc,.slice HA b0.heads.length Hc,.int .i64 S.leaves.size,.slice PA S.leaves.peaks.length pc,.int .i64 S.taken.size,.slice QA S.taken.peaks.length qc,.int .i64 S.head.number,.int .i64 S.head.size,.string S.head.root,.int .i64 S.head.taken,.string S.head.takenRoot]/\Blk wz gR 37 #[.int .i64 n,.slice EA b0.log.entries.length Ec,.slice RA b0.receipts.length Rc,.slice HA b0.heads.length Hc,.int .i64 S.leaves.size,.slice PA S.leaves.peaks.length pc,.int .i64 S.taken.size,.slice QA S.taken.peaks.length qc,.int .i64 S.head.number,.int .i64 S.head.size,.string S.head.root,.int .i64 S.head.taken,.string S.head.takenRoot]/\Ext w wz/\Qbj w.heap.size wz [(9,1,.slice PA S.leaves.peaks.length pc,S.leaves.peaks.length,S.leaves.peaks.flatMap sone),(9,1,.slice QA S.taken.peaks.length qc,S.taken.peaks.length,S.taken.peaks.flatMap sone),(33,5,.slice HA b0.heads.length Hc,b0.heads.length,b0.heads.flatMap Qak.cells),(42,3,.slice RA b0.receipts.length Rc,b0.receipts.length,b0.receipts.flatMap Qab.cells),(40,5,.slice EA b0.log.entries.length Ec,b0.log.entries.length,b0.log.entries.flatMap Qaf.cells),(50,3,.slice V dm.length cv,dm.length,dm.flatMap Qbs.cells),(9,1,.slice A0 F0.length c0,F0.length,F0.flatMap sone),(9,1,.slice A1 F1.length c1,F1.length,F1.flatMap sone),(9,1,.slice A2 F2.length c2,F2.length,F2.flatMap sone)]:=⟨_,rfl,KB.put 0 [.int .i64 n,.slice EA b0.log.entries.length Ec,.slice RA b0.receipts.length Rc,.slice HA b0.heads.length Hc,.int .i64 S.leaves.size,.slice PA S.leaves.peaks.length pc,.int .i64 S.taken.size,.slice QA S.taken.peaks.length qc,.int .i64 S.head.number,.int .i64 S.head.size,.string S.head.root,.int .i64 S.head.taken,.string S.head.takenRoot] #[.int .i64 n,.slice EA b0.log.entries.length Ec,.slice RA b0.receipts.length Rc,.slice HA b0.heads.length Hc,.int .i64 S.leaves.size,.slice PA S.leaves.peaks.length pc,.int .i64 S.taken.size,.slice QA S.taken.peaks.length qc,.int .i64 S.head.number,.int .i64 S.head.size,.string S.head.root,.int .i64 S.head.taken,.string S.head.takenRoot] (by simp) rfl,Qaa (W:=w) (g:=gR) (by have:=HgR.out;omega) [.int .i64 n,.slice EA b0.log.entries.length Ec,.slice RA b0.receipts.length Rc,.slice HA b0.heads.length Hc,.int .i64 S.leaves.size,.slice PA S.leaves.peaks.length pc,.int .i64 S.taken.size,.slice QA S.taken.peaks.length qc,.int .i64 S.head.number,.int .i64 S.head.size,.string S.head.root,.int .i64 S.head.taken,.string S.head.takenRoot] 0 _ he,Qbj.put RL.out KB (by simp) [.int .i64 n,.slice EA b0.log.entries.length Ec,.slice RA b0.receipts.length Rc,.slice HA b0.heads.length Hc,.int .i64 S.leaves.size,.slice PA S.leaves.peaks.length pc,.int .i64 S.taken.size,.slice QA S.taken.peaks.length qc,.int .i64 S.head.number,.int .i64 S.head.size,.string S.head.root,.int .i64 S.head.taken,.string S.head.takenRoot] 0⟩
               have HW:=hU hw;have T4:=hU (KB.there 0 13 (by simp));have Z4:=hU hz;have X4:=hU hx;have RZ:=hU hR
               have RX:=hU (Blk.range KV)
               clear hw hz hx hR
               go_wp2_with (first|(refine wpList_load_mid rfl 37 _ rfl gV 0 rfl [.int .i64 n,.slice EA b0.log.entries.length Ec,.slice RA b0.receipts.length Rc,.slice HA b0.heads.length Hc,.int .i64 S.leaves.size,.slice PA S.leaves.peaks.length pc,.int .i64 S.taken.size,.slice QA S.taken.peaks.length qc,.int .i64 S.head.number,.int .i64 S.head.size,.string S.head.root,.int .i64 S.head.taken,.string S.head.takenRoot] _ RX.out Tryz.underlying37 rfl (by kernel_rfl) ?_)|(refine Qac rfl 37 _ _ rfl rfl gR 0 [.int .i64 n,.slice EA b0.log.entries.length Ec,.slice RA b0.receipts.length Rc,.slice HA b0.heads.length Hc,.int .i64 S.leaves.size,.slice PA S.leaves.peaks.length pc,.int .i64 S.taken.size,.slice QA S.taken.peaks.length qc,.int .i64 S.head.number,.int .i64 S.head.size,.string S.head.root,.int .i64 S.head.taken,.string S.head.takenRoot] rfl rfl T4.out (by kernel_rfl) (by rfl) ?_;rw[<-HW.out]))
               have hs:S=(reB n l).sealed:=by rw[HS.out,HB0.out];rfl
               have hb0:=HB0.out
               have hdm:=HDM.out
               clear HW T4 RX HS
               subst hs hb0 hdm
               exact Qc2 rfl rfl Z4.out Tryz.underlying37 rfl (by kernel_rfl) rfl (Qlc.good GF.out rfl ⟨RZ.out.tail.tail.tail.tail.head,RZ.out.tail.tail.tail.head,RZ.out.tail.tail.head,RZ.out.head,RZ.out.tail.head⟩ AP.out RZ.out.tail.tail.tail.tail.tail.head X4.out)
  have hk3:k<3:=by have:=HL3.out;omega
  obtain⟨x,hx⟩:∃ x,l[k]?=some x:=⟨l[k],List.getElem?_eq_getElem hlt⟩
  obtain⟨b,off,rfl,hb,c0⟩:=Qdo (HR.out.ext he) hx
  have hxs:=Hsz.out x (List.mem_of_getElem? hx)
  have X:=hU hx
  clear hx
  go_wp2_with fail
  refine(Qni x _ hxs).mono ?_
  rintro e w4 ⟨u,rfl,hu,h1⟩
  have FX:=hU (show Qbe l k=(unf x).1 by rw[Qbe,List.getD_eq_getElem?_getD,X.out];rfl)
  have hu':RowT w.heap.size w4 u (Qbe l k):=by
   rw[FX.out]
   exact Qaj (RowT.of hu rfl (by simp[Quv,List.map_eq_flatMap];rfl)) he.size
  obtain⟨U,cu,rfl,_⟩:=Qae hu
  have KB4:=KBH.out.ext h1;have KT4:=KTH.out.ext h1
  replace KO:=hU (Qag KO.out h1);replace he:=he.next h1
  have RH:=fun j hj=>RowT.ext (Hrows.out j hj) h1
  clear h1 c0 Hrows KBH KTH hb hu
  have DM:=hU (show dmgs 0 (l.take (k+1))=dmgs 0 (l.take k)++dmg1 k x by
   obtain⟨hkl,hkd⟩:=List.getElem?_eq_some_iff.1 X.out
   rw[List.take_succ_eq_append_getElem hkl,hkd,Qti,List.length_take,Nat.zero_add,Nat.min_eq_left (Nat.le_of_lt hkl)])
  have UE:=hU (unf_end x)
  have D1:=hU (show dmg1 k x=if(unf x).2<x.size then[(k,(unf x).2)] else[] from rfl)
  have ulen:(unf x).1.length<=600:=Qwd x
  obtain⟨p,hp⟩:∃ p,p=(unf x).2:=⟨_,rfl⟩
  obtain⟨m,hm⟩:∃ m,m=(unf x).1.length:=⟨_,rfl⟩
  rw[<-hp] at UE D1
  rw[<-hp]
  rw[<-hm]
  rw[<-hm] at hu' ulen
  clear hp hm
  have UV:=hU hu'
  clear hu'
  have U0:=hU (show ∃ u0,w4.cell? ⟨gT,k,none⟩=some u0 from⟨vs[k]'(by rw[Hvs.out];exact hk3),by rw[KT4.cell];simp[Hvs.out,hk3]⟩)
  have TF:=hU KT4.frozen
  obtain⟨w5,hw5,KT5,KB5,RH5,KO5,he5⟩:∃ w5,w5=w4.setCell ⟨gT,k,none⟩ (.slice U m cu)/\Blk w5 gT 112 (vs.take k++[Value.slice U m cu]++vs.drop (k+1)).toArray/\Blk w5 gR 37 #[.int .i64 0,.slice none 0 0,.slice none 0 0,.slice none 0 0,.int .i64 0,.slice none 0 0,.int .i64 0,.slice none 0 0,.int .i64 0,.int .i64 0,.string ⟨#[]⟩,.int .i64 0,.string ⟨#[]⟩]/\(∀ j,j<k+1->RowT w.heap.size w5 ((vs.take k++[Value.slice U m cu]++vs.drop (k+1)).getD j undef) (Qbe l j))/\w5.ownsRow w.heap.size 50 3 (.slice V (dmgW (dmgs 0 (l.take k))).length cv) (dmgW (dmgs 0 (l.take k))).length ((dmgW (dmgs 0 (l.take k))).flatMap Qbs.cells)/\Ext w w5:=by
   have hf:=Frm.setCells (Frm.refl (fun b=>b=gT) w4) (g:=gT) (fun _=>rfl) [.slice U m cu] k
   refine⟨_,rfl,KT4.put k [.slice U m cu] _ (by rw[List.size_toArray,Hvs.out];simp;omega) rfl,hf.blk KB4 (by omega),?_,hf.own KO.out (fun y hy=>Qew KO.out KT4 (by decide) y hy),hf.toExt he (fun y hy e=>by have:=HgR.out;omega)⟩
   intro j hj
   rw[take_set _ _ _ _ _ (by rw[Hvs.out];exact hk3)]
   by_cases hjk:j=k
   · rw[if_pos hjk,hjk]
     exact hf.own UV.out (fun y hy=>Qew UV.out KT4 (by decide) y hy)
   · rw[if_neg hjk]
     have h2:=RH j (by omega)
     exact hf.own h2 (fun y hy=>Qew h2 KT4 (by decide) y hy)
  have HW:=hU hw5;have KT:=hU KT5;have KB:=hU KB5;have RH:=hU RH5;have KO:=hU KO5
  have VL:=hU (show(vs.take k++[Value.slice U m cu]++vs.drop (k+1)).length=3 by simp;rw[Hvs.out];omega)
  obtain⟨vs2,hvs2⟩:∃ vs2,vs2=vs.take k++[Value.slice U m cu]++vs.drop (k+1):=⟨_,rfl⟩
  rw[<-hvs2] at KT RH VL
  clear hw5 KT5 KB5 KO5 he KT4 KB4 hvs2
  have hlv:3<=l.length:=by have:=HL3.out;omega
  obtain⟨u0,cu0⟩:=U0.out
  have fr4:=TF.out
  go_upto_region 10 with fail
  rw[<-HW.out]
  clear cu0 fr4
  have KL:=hU (show(dmgW (dmgs 0 (l.take k))).length<=3 from by
   have:=Qui (l.take k) 0
   rw[List.length_take] at this
   simp only[dmgW,List.length_map]
   omega)
  obtain⟨d0,hd0⟩:∃ d0,d0=dmgW (dmgs 0 (l.take k)):=⟨_,rfl⟩
  rw[<-hd0] at KO KL hnc
  rw[<-hd0]
  have D0:=hU hd0
  clear hd0 HW U0 TF
  have he:=he5
  clear he5
  by_cases hps:p<x.size
  · have DN:=hU (show dmgW (dmgs 0 (l.take (k+1)))=d0++[⟨(k:Int),(p:Int),⟨#[]⟩⟩] by rw[DM.out,Qn2,D0.out,D1.out,if_pos hps];rfl)
    have hws:=he.size
    have kl:=KL.out
    go_wp2_with (at_builtin;refine Qap _ rfl _ _ 46 rfl w.heap.size 50 i0 (.agg #[.int .i64 0,.int .i64 0,.string ⟨#[]⟩]) 3 32 Tryz.underlying46 hi hz0 hz1 hz2 rfl (by decide) _ _ _ rfl (World.ownsRow.alloc (w:=w5) KO.out _) ⟨w5.heap.size,0,none⟩ 1 1 (#[.int .i64 k,.int .i64 p,.string ⟨#[]⟩]:Array Value).toList rfl rfl ?c1 ?c2 ?c3 ?c4 ?c5 ?_)
    case c2=>exact⟨rfl,rfl,rfl⟩
    case c3=>unfold maxLen;omega
    case c4=>omega
    case c5=>simp;omega
    intro v' w6 hown' hfrm hmv
    have L0:=hU KO.out.lt
    have he2:Ext w w6:=hfrm.toExt (he.new _) (fun y hy e=>by have:=(L0.out _ e).1;omega)
    have KB6:=hU (hfrm.blk (KB.out.alloc _) (fun e=>Qew KO.out KB.out (by decide) _ e rfl))
    have KT6:=hU (hfrm.blk (KT.out.alloc _) (fun e=>Qew KO.out KT.out (by decide) _ e rfl))
    have RH6:=hU (fun j hj=>(show RowT w.heap.size w6 (vs2.getD j undef) (Qbe l j) from hfrm.own (World.ownsRow.alloc (w:=w5) (RH.out j hj) _) (fun y hy e2=>Qbq (RH.out j hj) KO.out (by decide) y hy e2)))
    have KO6:=hU (show w6.ownsRow w.heap.size 50 3 v' (dmgW (dmgs 0 (l.take (k+1)))).length ((dmgW (dmgs 0 (l.take (k+1)))).flatMap Qbs.cells) by rw[DN.out,List.length_append,List.flatMap_append];simpa [Qbs.cells] using hown')
    clear hown' hfrm hmv L0 KO
    go_wp2_with fail
    go_roundw
    case rel=>exact⟨k+1,vs2,by omega,by go_num,VL.out,RH6.out,KB6.out,KT6.out,KO6.out,he2⟩
    case measure=>simp[intOf];omega
  · have DN:=hU (show dmgW (dmgs 0 (l.take (k+1)))=d0 by rw[DM.out,Qn2,D0.out,D1.out,if_neg hps];exact List.append_nil _)
    have KO6:=hU (show w5.ownsRow w.heap.size 50 3 (.slice V d0.length cv) (dmgW (dmgs 0 (l.take (k+1)))).length ((dmgW (dmgs 0 (l.take (k+1)))).flatMap Qbs.cells) by rw[DN.out];exact KO.out)
    clear KO
    go_wp2_with fail
    go_roundw
    case rel=>exact⟨k+1,vs2,by omega,by go_num,VL.out,RH.out,KB.out,KT.out,KO6.out,he⟩
    case measure=>simp[intOf];omega
end Go.Proofs.YtbnkjgcpjeedfaaGreat

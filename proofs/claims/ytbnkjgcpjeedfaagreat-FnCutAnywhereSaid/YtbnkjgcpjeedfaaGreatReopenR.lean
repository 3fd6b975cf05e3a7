/-
  GrowB; ReopenR: No condition.
-/
import Derived.Test.YtbnkjgcpjeedfaaGreatBrkV
import Derived.Test.YtbnkjgcpjeedfaaGreatReopen0
import Derived.Test.YtbnkjgcpjeedfaaGreatNodeW
import Derived.Test.YtbnkjgcpjeedfaaGreatRowTx
namespace Go.Proofs.YtbnkjgcpjeedfaaGreat
set_option maxHeartbeats 4000000
set_option maxRecDepth 100000
set_option linter.unusedSimpArgs false
open Go.RowKit
set_option linter.unusedVariables false
theorem grow_any(wd:Int)(hwd:inR wd 1 32=true)(B g T o n:Nat)(cs:Array Value)(v:Value)(s:List ByteArray)(leaf:ByteArray)(w:World)
 (hB:Blk w g T cs) (hT:T≠9) (h0:cs[o]?=some (.int .i64 (n:Int))) (h1:cs[o+1]?=some v) (hown:RowT B w v s.reverse) (hBw:B<=w.heap.size)
 (hs:∀ x∈s,WdT wd x) (hl:WdT wd leaf) (hlen:s.length=pc n) (hn:n<=100000) :
 Calls Tryz.prog 266 #[.pointer (some ⟨g,o,none⟩),.int .i64 wd,.string leaf] w fun e w'=>∃ m v',e=.returned (.int .i64 m)/\Blk w' g T ((cs.setIfInBounds o (.int .i64 ((n+1:Nat):Int))).setIfInBounds (o+1) v')/\
  RowT B w' v' (Qd1 (ndB wd) n s leaf).reverse/\Frm (fun b=>b=g\/v.ownBlock=some b) w w'/\Qhs v v' w.heap.size:=by
 obtain⟨i0,hi,hz0,hz1,hz2⟩:=info_parts Qd8
 have hw2:=Qa0 hwd
 have ho:o+1<cs.size:=(Array.getElem?_eq_some_iff.1 h1).1
 have hpl:=Qh9 n
 obtain⟨A,c,hv,hnc,hcm,_⟩:=hown.cells
 subst hv
 have hvm:(.slice A s.reverse.length c:Value)=.slice A s.length c:=by rw[List.length_reverse]
 rw[List.length_reverse] at hnc
 rw[hvm] at h1 hown
 rw[hvm]
 clear hvm
 obtain⟨hc,hf⟩:=hB.rules
 have c0:w.cell? ⟨g,o,none⟩=some (.int .i64 (n:Int)):=(hc o).trans h0
 have c1:w.cell? ⟨g,o+1,none⟩=some (.slice A s.length c):=(hc (o+1)).trans h1
 obtain⟨V,hV⟩:∃ V,V=(.slice A s.length c:Value):=⟨_,rfl⟩
 have HV:=hU hV
 rw[<-hV]
 have KO:=hU (show w.ownsRow B 9 1 (.slice A s.length c) s.length (s.reverse.flatMap sone) by have:=hown;unfold RowT at this;rwa [List.length_reverse] at this)
 have HB:=hU hB
 have H0:=hU h0
 have Hs:=hU hs
 have Hl:=hU hl
 have hsl:s.length<=100000:=by omega
 clear hc hown hB h0 h1 hV hs hl hpl
 have Hlen:=hU hlen
 clear hlen
 obtain⟨Fn,hFn⟩:∃ Fn,Fn=Qd1 (ndB wd) n s leaf:=⟨_,rfl⟩
 have FF:=hU hFn
 rw[<-hFn]
 clear hFn
 go_enter Tryz.func266,Tryz.ntmps266
 go_wp2_with (at_builtin;refine Qap _ rfl _ _ 29 rfl B 9 i0 _ 1 16 Tryz.underlying29 hi hz0 hz1 hz2 rfl (by decide) _ _ _ rfl (KO.out.alloc _) ⟨w.heap.size,0,none⟩ 1 1 [.string leaf] rfl rfl ?c1 ?c2 ?c3 ?c4 ?c5 ?_)
 case c1=>exact(Blk.new w 9 #[.string leaf]).adds
 case c2=>intro u hu;simp at hu;subst hu;rfl
 case c3=>unfold maxLen;omega
 case c4=>omega
 case c5=>simp;omega
 intro v1 w1 hown1 hfrm1 hmv1
 rw[<-HV.out] at hfrm1 hmv1
 have hap:=RowT.apart (RowT.of KO.out (by simp) rfl) HB.out hT
 rw[<-HV.out] at hap
 have hgl:=HB.out.lt
 have B1:Blk w1 g T cs:=hfrm1.blk (HB.out.alloc _) (fun e=>hap g e rfl)
 have F1:Frm (fun b=>b=g\/V.ownBlock=some b) w w1:=(Frm.of_ext (Ext.new (Below.refl w.heap.size w) _)).next hfrm1 (fun b _ hy=>Or.inr hy)
 have M1:Qhs V v1 w.heap.size:=fun b hb=>(hmv1 b hb).imp id (fun h=>by omega)
 have R1:RowT B w1 v1 (leaf :: s).reverse:=RowT.of hown1 (by simp) (by simp[sone])
 obtain⟨A1,c1',hv1,hnc1⟩:=Qae hown1
 subst hv1
 have q1:w1.cell? ⟨g,o+1,none⟩=some (.slice A s.length c):=by rw[B1.cell,<-HB.out.cell];exact c1
 obtain⟨_,f1⟩:=B1.rules
 have B2:=B1.set_ (o+1) (.slice A1 (s.length+1) c1')
 have F2:=F1.setCell1 (g:=g) (fun _=>Or.inl rfl) (o+1) (.slice A1 (s.length+1) c1')
 have R2:=R1.setCell B1 hT (o+1) (.slice A1 (s.length+1) c1')
 have B2:=hU B2;have F2:=hU F2;have R2:=hU R2;have M2:=hU M1
 clear hown1 hfrm1 hmv1 F1 R1 KO c0 c1 hf M1
 go_upto_region 3 with fail
 generalize w1.setCell ⟨g,o+1,none⟩ (.slice A1 (s.length+1) c1')=w2 at *
 obtain⟨hc,hf⟩:=B2.out.rules
 have c0:w2.cell? ⟨g,o,none⟩=some (.int .i64 (n:Int)):=by rw[hc,Array.getElem?_setIfInBounds_ne (by omega)];exact H0.out
 clear hc f1 q1 B1
 go_wp2_with fail
 have hpn:n<=100000:=hn
 clear c0
 go_loopw [7,8] (fun mk sz wr=>∃(m:Nat) (mk':Int) (p:ByteArray) (t:List ByteArray) (vr:Value),sz=.int .i64 (m:Int)/\mk=.int .i64 mk'/\Qd1 (ndB wd) m t p=Fn/\t.length=pc m/\(∀ x∈t,WdT wd x)/\WdT wd p/\m<=n/\
  Blk wr g T (cs.setIfInBounds (o+1) vr)/\RowT B wr vr (p :: t).reverse/\Frm (fun b=>b=g\/V.ownBlock=some b) w wr/\Qhs V vr w.heap.size) (fun _ sz _=>(intOf sz).toNat)
 case atStart=>exact⟨n,0,leaf,s,_,rfl,rfl,FF.out.symm,Hlen.out,Hs.out,Hl.out,Nat.le_refl _,B2.out,R2.out,F2.out,M2.out⟩
 case round=>
  clear B2 R2 F2 M2 hf
  obtain⟨m,mk',p,t,vr,rfl,rfl,hF,htl,ht,hp,hmn,hB,hR,hFr,hM⟩:=hrel
  have htl2:=Qh9 m
  obtain⟨hc,hf⟩:=hB.rules
  have c0:wr.cell? ⟨g,o,none⟩=some (.int .i64 (n:Int)):=by rw[hc,Array.getElem?_setIfInBounds_ne (by omega)];exact H0.out
  have c1:wr.cell? ⟨g,o+1,none⟩=some vr:=by rw[hc,Array.getElem?_setIfInBounds_self];exact if_pos ho
  rcases Nat.mod_two_eq_zero_or_one m with h2|h2
  · have t1:Int.tmod (m:Int) 2=0:=by rw[Int.tmod_eq_emod_of_nonneg (by omega)];omega
    rw[Qe6 _ h2] at hF
    have B3:=(hB.set_ o (.int .i64 ((n:Int)+1)))
    have F3:=hFr.setCell1 (g:=g) (fun _=>Or.inl rfl) o (.int .i64 ((n:Int)+1))
    have R3:=hR.setCell hB hT o (.int .i64 ((n:Int)+1))
    have B3:=hU B3;have F3:=hU F3;have R3:=hU R3;have M3:=hU hM
    clear hc hB hR hFr hM c1
    go_upto_region 11 with fail
    generalize wr.setCell ⟨g,o,none⟩ (.int .i64 ((n:Int)+1))=w3 at *
    go_wp2_with fail
    go_ret
    refine⟨mk',vr,rfl,?_,by rw[<-hF];exact R3.out,F3.out,M3.out⟩
    have:=B3.out
    rw[Array.setIfInBounds_comm _ _ (by omega)] at this
    exact this
  · match t,htl,ht,hF,hR,htl2 with
    | [],htl,_,_,_,_=>rw[(Qpf h2).2] at htl;simp at htl
    | q :: r,htl,ht,hF,hR,htl2=>
      have t1:Int.tmod (m:Int) 2=1:=by rw[Int.tmod_eq_emod_of_nonneg (by omega)];omega
      have t2:Int.tdiv (m:Int) 2=((m / 2:Nat):Int):=by rw[Int.tdiv_eq_ediv_of_nonneg (by omega)];rfl
      rw[Qhb _ h2] at hF
      have hrl:r.length=pc (m / 2):=by rw[(Qpf h2).2] at htl;simpa using htl
      obtain⟨A',c',hvr,hlc,hcm',hcl⟩:=hR.cells
      obtain⟨b,off,rfl,hb,hcl⟩:=hcl (by simp)
      obtain⟨L,hL⟩:∃ L,L=(p :: q :: r).reverse.length:=⟨_,rfl⟩
      have hL2:L=r.length+2:=by rw[hL];simp
      have hp0:=hcl (r.length) q (by simp)
      have hp1:=hcl (r.length+1) p (by simp)
      have ap:=RowT.apart hR hB hT
      rw[<-hL] at hvr hlc
      subst hvr
      have hw2:=Qa0 hwd
      have sq:q.size<=1000:=by have:=ht q (by simp);unfold WdT at this;omega
      have sp:p.size<=1000:=by have:=hp;unfold WdT at this;omega
      have hJ:WdT wd (Qor wd (q++p)):=Qkh hwd q p (ht q (by simp)) hp
      have e1:(L:Int)-2=(r.length:Int):=by omega
      have e2:(L:Int)-1=((r.length+1:Nat):Int):=by omega
      have hrs:r.length<=100000:=by simp at htl;omega
      have e3:IntKind.i64.wrap (r.length:Int)=(r.length:Int):=IntWalk.i64_in _ (by omega)
      have e4:IntKind.i64.wrap ((r.length+1:Nat):Int)=((r.length+1:Nat):Int):=IntWalk.i64_in _ (by omega)
      have HR:=hU hR;have HB:=hU hB;have HF:=hU hF;have HT:=hU ht;have HP:=hU hp;have HFr:=hU hFr;have HM:=hU hM;have HJ:=hU hJ;have AP:=hU ap;have HL:=hU hL
      have HRL:=hU hrl
      obtain⟨k1,hk1⟩:∃ k1,k1=r.length+1:=⟨_,rfl⟩
      rw[<-hk1] at hp1 e2 e4
      obtain⟨k0,hk0⟩:∃ k0,k0=r.length:=⟨_,rfl⟩
      have hlt0:k0<L:=by omega
      have hlt1:k1<L:=by omega
      have K0:=hU hk0
      rw[<-hk0] at hp0 e1 e3 hrs
      clear hk1 hR hB hF ht hp hFr hM hJ ap hL hL2 hcl hc hk0 htl htl2 hrl
      go_wp2_with fail
      go_still_tail 17,(by kernel_rfl)
      change wpList _ _ _ _ _ wr.drew
      generalize hwd2:wr.drew=w2
      have HB2:Hid (Blk w2 g T (cs.setIfInBounds (o+1) (.slice (some ⟨b,off,none⟩) L c'))):=hU (by rw[<-hwd2];exact HB.out)
      have HR2:Hid (RowT B w2 (.slice (some ⟨b,off,none⟩) L c') (p :: q :: r).reverse):=hU (by rw[<-hwd2];exact HR.out)
      have HF2:Hid (Frm (fun b=>b=g\/V.ownBlock=some b) w w2):=hU (by rw[<-hwd2];exact HFr.out.drew)
      clear hwd2 HB HR HFr c0 c1 hf hp0 hp1
      go_wp2_with fail
      refine(Qua wd q p _ sq sp).mono ?_
      rintro e w3 ⟨rfl,h1⟩
      replace HB2:=hU (HB2.out.ext h1);replace HR2:=hU (HR2.out.ext h1);replace HF2:=hU (HF2.out.ext h1)
      clear h1
      obtain⟨J,hJ⟩:∃ J,J=Qor wd (q++p):=⟨_,rfl⟩
      rw[<-hJ]
      have HJ2:=hU hJ
      clear hJ
      obtain⟨hc,hf⟩:=HB2.out.rules
      have c1:w3.cell? ⟨g,o+1,none⟩=some (.slice (some ⟨b,off,none⟩) L c'):=by rw[hc,Array.getElem?_setIfInBounds_self];exact if_pos ho
      clear hc
      have KO:=hU (show w3.ownsRow B 9 1 (.slice (some ⟨b,off,none⟩) k0 c') k0 (r.reverse.flatMap sone) by
       have h1:=HR2.out
       unfold RowT at h1
       rw[<-HL.out] at h1
       have h2:=Ql1 h1 (m:=k0) (by omega)
       rw[Nat.mul_one] at h2
       have h3:((p :: q :: r).reverse.flatMap sone).take k0=r.reverse.flatMap sone:=by
        rw[List.reverse_cons,List.reverse_cons,List.append_assoc,List.flatMap_append,List.take_append_of_le_length (by rw[Qes sone 1 Qbw,List.length_reverse,K0.out];omega),List.take_of_length_le (by rw[Qes sone 1 Qbw,List.length_reverse,K0.out];omega)]
       rwa [h3] at h2)
      have hlc2:k0<=c':=by omega
      have hcm2:c'<=9223372036854775807:=by unfold maxLen at hcm';omega
      have hBw3:B<=w3.heap.size:=Nat.le_trans hBw HF2.out.size
      go_wp2_with (at_builtin;refine Qap _ rfl _ _ 29 rfl B 9 i0 _ 1 16 Tryz.underlying29 hi hz0 hz1 hz2 rfl (by decide) _ _ _ rfl (KO.out.alloc _) ⟨w3.heap.size,0,none⟩ 1 1 [.string J] rfl rfl ?d1 ?d2 ?d3 ?d4 ?d5 ?_)
      case d1=>exact(Blk.new w3 9 #[.string J]).adds
      case d2=>intro u hu;simp at hu;subst hu;rfl
      case d3=>unfold maxLen;omega
      case d4=>omega
      case d5=>simp;omega
      intro v4 w4 hown4 hfrm4 hmv4
      have HM3:∀ x,(.slice (some ⟨b,off,none⟩) k0 c':Value).ownBlock=some x->V.ownBlock=some x\/w.heap.size<=x:=fun x hx=>HM.out x hx
      have B4:Blk w4 g T (cs.setIfInBounds (o+1) (.slice (some ⟨b,off,none⟩) L c')):=hfrm4.blk (HB2.out.alloc _) (fun e=>AP.out g e rfl)
      have F4:Frm (fun b=>b=g\/V.ownBlock=some b) w w4:=(HF2.out.ext (Ext.new (Below.refl w3.heap.size w3) _)).next hfrm4 (fun y hy hx=>by
       rcases HM3 y hx with h|h
       · exact Or.inr h
       · omega)
      have M4:Qhs V v4 w.heap.size:=fun x hx=>by
       rcases hmv4 x hx with h|h
       · exact HM3 x h
       · have:=HF2.out.size;exact Or.inr (by omega)
      have R4:RowT B w4 v4 (J :: r).reverse:=RowT.of hown4 (by simp[K0.out]) (by simp[sone])
      obtain⟨A5,c5,hv5,hnc5⟩:=Qae hown4
      subst hv5
      have q4:w4.cell? ⟨g,o+1,none⟩=some (.slice (some ⟨b,off,none⟩) L c'):=by rw[B4.cell,Array.getElem?_setIfInBounds_self];exact if_pos ho
      obtain⟨_,f4⟩:=B4.rules
      have B5:=B4.set_ (o+1) (.slice A5 (k0+1) c5)
      rw[Array.setIfInBounds_setIfInBounds] at B5
      have F5:=F4.setCell1 (g:=g) (fun _=>Or.inl rfl) (o+1) (.slice A5 (k0+1) c5)
      have R5:=R4.setCell B4 hT (o+1) (.slice A5 (k0+1) c5)
      have B5:=hU B5;have F5:=hU F5;have R5:=hU R5;have M5:=hU M4
      clear hown4 hfrm4 hmv4 F4 R4 KO M4 HM3 hf c1 HB2 HR2 HF2
      go_upto_region 9 with fail
      generalize w4.setCell ⟨g,o+1,none⟩ (.slice A5 (k0+1) c5)=w5 at *
      clear f4 q4 B4
      go_wp2_with fail
      go_roundw
      case rel=>exact⟨m / 2,_,J,r,_,rfl,rfl,by rw[HJ2.out];exact HF.out,HRL.out,fun x hx=>HT.out x (by simp[hx]),by rw[HJ2.out];exact HJ.out,by omega,B5.out,R5.out,F5.out,M5.out⟩
      case measure=>simp[intOf];omega
def Qe8 (b:Qad) (ve vr vh v1 v2:Value):List Value:=[.int .i64 b.width,ve,vr,vh,.int .i64 b.sealed.leaves.size,v1,.int .i64 b.sealed.taken.size,v2,.int .i64 b.sealed.head.number,.int .i64 b.sealed.head.size,.string b.sealed.head.root,.int .i64 b.sealed.head.taken,.string b.sealed.head.takenRoot]
structure Qb9 (K:Nat) (w:World) (b:Qad) (ve vr vh v1 v2:Value):Prop where
 e:w.ownsRow K 40 5 ve b.log.entries.length (b.log.entries.flatMap Qaf.cells)
 r:w.ownsRow K 42 3 vr b.receipts.length (b.receipts.flatMap Qab.cells)
 h:w.ownsRow K 33 5 vh b.heads.length (b.heads.flatMap Qak.cells)
 p:RowT K w v1 b.sealed.leaves.peaks
 q:RowT K w v2 b.sealed.taken.peaks
theorem Qb9.ext{K:Nat}{w w':World}{b:Qad}{ve vr vh v1 v2:Value}(h:Qb9 K w b ve vr vh v1 v2)(he:Ext w w'):Qb9 K w' b ve vr vh v1 v2:=
 ⟨Qag h.e he,Qag h.r he,Qag h.h he,RowT.ext h.p he,RowT.ext h.q he⟩
def noB:Qad:=⟨0,⟨[]⟩,[],[],⟨⟨0,[]⟩,⟨0,[]⟩,hz⟩⟩
theorem Qb9.zero(K:Nat)(w:World):Qb9 K w noB (.slice none 0 0) (.slice none 0 0) (.slice none 0 0) (.slice none 0 0) (.slice none 0 0):=
 ⟨World.ownsRow_nil _ _ _ _,World.ownsRow_nil _ _ _ _,World.ownsRow_nil _ _ _ _,World.ownsRow_nil _ _ _ _,World.ownsRow_nil _ _ _ _⟩
def dmgW (L:List (Nat × Nat)):List Qbs:=L.map fun x=>⟨(x.1:Int),(x.2:Int),⟨#[]⟩⟩
theorem Qn2(a b:List (Nat × Nat)):dmgW (a++b)=dmgW a++dmgW b:=List.map_append
def reBB (n:Int) (l:List ByteArray):Qad:=if Qdg n l=0 then reB n l else noB
def reW (n:Int) (l:List ByteArray):List Qbs:=if Qdg n l=0 then dmgW (dmgs 0 l) else[]
def Qlc (n:Int) (l:List ByteArray) (w:World) (e:Ending) (w':World):Prop:=
 ∃ ve vr vh v1 v2 vw,e=.returned (.tuple #[.agg (Qe8 (reBB n l) ve vr vh v1 v2).toArray,vw,.int .i64 (Qdg n l:Int)])/\Qb9 w.heap.size w' (reBB n l) ve vr vh v1 v2/\(∀ x,v1.ownBlock=some x->v2.ownBlock≠some x)/\
  w'.ownsRow w.heap.size 50 3 vw (reW n l).length ((reW n l).flatMap Qbs.cells)/\Ext w w'
theorem Qlc.bad{n:Int}{l:List ByteArray}{w w':World}{e:Ending}{vw:Value}{k:Nat}(hk:Qdg n l=k)(h0:k≠0)(he:e=.returned (.tuple #[.agg #[.int .i64 0,.slice none 0 0,.slice none 0 0,.slice none 0 0,.int .i64 0,.slice none 0 0,.int .i64 0,.slice none 0 0,.int .i64 0,.int .i64 0,.string ⟨#[]⟩,.int .i64 0,.string ⟨#[]⟩],vw,.int .i64 (k:Int)]))(ho:w'.ownsRow w.heap.size 50 3 vw 0 [])(hx:Ext w w'):Qlc n l w e w':=by
 have h1:reBB n l=noB:=by rw[reBB,hk,if_neg h0]
 have h2:reW n l=[]:=by rw[reW,hk,if_neg h0]
 refine⟨.slice none 0 0,.slice none 0 0,.slice none 0 0,.slice none 0 0,.slice none 0 0,vw,?_,?_,(fun x h=>by cases h),?_,hx⟩
 · rw[he,h1,hk];rfl
 · rw[h1];exact Qb9.zero _ _
 · rw[h2];exact ho
theorem Qlc.good{n:Int}{l:List ByteArray}{w w':World}{e:Ending}{ve vr vh v1 v2 vw:Value}(hk:Qdg n l=0)(he:e=.returned (.tuple #[.agg (Qe8 (reB n l) ve vr vh v1 v2).toArray,vw,.int .i64 0]))(hb:Qb9 w.heap.size w' (reB n l) ve vr vh v1 v2)(ha:∀ x,v1.ownBlock=some x->v2.ownBlock≠some x)
 (ho:w'.ownsRow w.heap.size 50 3 vw (dmgW (dmgs 0 l)).length ((dmgW (dmgs 0 l)).flatMap Qbs.cells)) (hx:Ext w w'):Qlc n l w e w':=by
 have h1:reBB n l=reB n l:=by rw[reBB,hk,if_pos rfl]
 have h2:reW n l=dmgW (dmgs 0 l):=by rw[reW,hk,if_pos rfl]
 refine⟨ve,vr,vh,v1,v2,vw,?_,?_,ha,?_,hx⟩
 · rw[he,h1,hk];rfl
 · rw[h1];exact hb
 · rw[h2];exact ho
theorem re1{n:Int}{l:List ByteArray}(h:(inR n 1 32&&Qch l)=false):Qdg n l=1:=by unfold Qdg;rw[h];rfl
theorem re2{n:Int}{l:List ByteArray}(h:(inR n 1 32&&Qch l)=true)(h1:((Qbe l 0).all Qc7&&Qgj (reB0 n l).log.entries)=false):Qdg n l=2:=by unfold Qdg;rw[h,h1];rfl
theorem re3{n:Int}{l:List ByteArray}(h:(inR n 1 32&&Qch l)=true)(h1:((Qbe l 0).all Qc7&&Qgj (reB0 n l).log.entries)=true)(h2:((Qbe l 2).all Qdf&&Qdx (reB0 n l).receipts)=false):Qdg n l=3:=by unfold Qdg;rw[h,h1,h2];rfl
theorem re4{n:Int}{l:List ByteArray}(h:(inR n 1 32&&Qch l)=true)(h1:((Qbe l 0).all Qc7&&Qgj (reB0 n l).log.entries)=true)(h2:((Qbe l 2).all Qdf&&Qdx (reB0 n l).receipts)=true)(h3:((Qbe l 1).all (Qer n)&&Qbu (reB0 n l))=false):Qdg n l=4:=by unfold Qdg;rw[h,h1,h2,h3];rfl
theorem re0{n:Int}{l:List ByteArray}(h:(inR n 1 32&&Qch l)=true)(h1:((Qbe l 0).all Qc7&&Qgj (reB0 n l).log.entries)=true)(h2:((Qbe l 2).all Qdf&&Qdx (reB0 n l).receipts)=true)(h3:((Qbe l 1).all (Qer n)&&Qbu (reB0 n l))=true):Qdg n l=0:=by unfold Qdg;rw[h,h1,h2,h3];rfl
theorem Qvn{l:List ByteArray}(h:Qch l=true):l.length=3:=by
 simp only[Qch,Bool.and_eq_true,beq_iff_eq] at h
 exact h.1
def Qbj (K:Nat) (w:World) (L:List (Nat × Nat × Value × Nat × List Value)):Prop:=∀ x∈L,w.ownsRow K x.1 x.2.1 x.2.2.1 x.2.2.2.1 x.2.2.2.2
theorem Qbj.nil(K:Nat)(w:World):Qbj K w []:=fun x h=>by cases h
theorem Qbj.cons{K:Nat}{w:World}{L:List (Nat × Nat × Value × Nat × List Value)}{e s n:Nat}{v:Value}{xs:List Value}(h:w.ownsRow K e s v n xs)(k:Qbj K w L):Qbj K w ((e,s,v,n,xs) :: L):=fun x hx=>by
 rcases List.mem_cons.1 hx with rfl|hx
 · exact h
 · exact k x hx
theorem Qbj.ext{K:Nat}{w w':World}{L:List (Nat × Nat × Value × Nat × List Value)}(h:Qbj K w L)(he:Ext w w'):Qbj K w' L:=fun x hx=>Qag (h x hx) he
theorem Qbj.head{K:Nat}{w:World}{L:List (Nat × Nat × Value × Nat × List Value)}{e s n:Nat}{v:Value}{xs:List Value}(h:Qbj K w ((e,s,v,n,xs) :: L)):w.ownsRow K e s v n xs:=h _ (List.mem_cons_self ..)
theorem Qbj.tail{K:Nat}{w:World}{L:List (Nat × Nat × Value × Nat × List Value)}{x:Nat × Nat × Value × Nat × List Value}(h:Qbj K w (x :: L)):Qbj K w L:=fun y hy=>h y (List.mem_cons_of_mem _ hy)
theorem Qew{w:World}{K e size n G t:Nat}{v:Value}{xs:List Value}{cs:Array Value}(h:w.ownsRow K e size v n xs)(hb:Blk w G t cs)(ht:t≠e):∀ x,v.ownBlock=some x->x≠G:=by
 intro x hx hG
 subst hG
 rcases h.2 with⟨rfl,_⟩|⟨g,cap,cur,rfl,hg,hh,_⟩
 · cases hx
 · simp[Value.ownBlock] at hx
   subst hx
   have hb':w.heap[g]?=some (.cells cs t (0,0)):=hb
   rw[hh] at hb'
   simp at hb'
   exact ht hb'.2.symm
theorem Qbq{w:World}{K e size n K' e' size' n':Nat}{v v':Value}{xs xs':List Value}(h:w.ownsRow K e size v n xs)(h':w.ownsRow K' e' size' v' n' xs')(ht:e≠e'):∀ x,v.ownBlock=some x->v'.ownBlock≠some x:=by
 intro x hx hx'
 rcases h.2 with⟨rfl,_⟩|⟨g,cap,cur,rfl,hg,hh,_⟩
 · cases hx
 · rcases h'.2 with⟨rfl,_⟩|⟨g',cap',cur',rfl,hg',hh',_⟩
   · cases hx'
   · simp[Value.ownBlock] at hx hx'
     subst hx;subst hx'
     rw[hh] at hh'
     simp at hh'
     exact ht hh'.2
theorem Qbj.put{K G T:Nat}{w:World}{L:List (Nat × Nat × Value × Nat × List Value)}{cc:Array Value}(h:Qbj K w L)(hb:Blk w G T cc)(hT:∀ x∈L,T≠x.1)(vs:List Value)(o:Nat):Qbj K (w.setCells G o vs) L:=fun x hx=>by
 have hf:=Frm.setCells (Frm.refl (fun b=>b=G) w) (g:=G) (fun _=>rfl) vs o
 exact hf.own (h x hx) (fun y hy=>Qew (h x hx) hb (hT x hx) y hy)
theorem RowT.ofBase{B K:Nat}{w:World}{v:Value}{ts:List ByteArray}(h:RowT B w v ts)(hK:K<=B):RowT K w v ts:=Qaj h hK
theorem take_set(vs:List Value)(k j:Nat)(u v:Value)(hk:k<vs.length):(vs.take k++[v]++vs.drop (k+1)).getD j u=if j=k then v else vs.getD j u:=by
 have:vs.take k++[v]++vs.drop (k+1)=vs.set k v:=by rw[List.set_eq_take_append_cons_drop,if_pos hk];simp
 rw[this]
 simp only[List.getD_eq_getElem?_getD,List.getElem?_set]
 by_cases h:k=j
 · subst h;simp[hk]
 · rw[if_neg h,if_neg (fun e=>h e.symm)]
end Go.Proofs.YtbnkjgcpjeedfaaGreat

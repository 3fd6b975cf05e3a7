/-
  TextsB: No condition.
-/
import Derived.Test.YtbnkjgcpjeedfaaGreatRightP
import Derived.Test.YtbnkjgcpjeedfaaGreatHeadsOks
import Derived.Test.YtbnkjgcpjeedfaaGreatCopyC
import Derived.Test.YtbnkjgcpjeedfaaGreatSealsB
namespace Go.Proofs.YtbnkjgcpjeedfaaGreat
set_option maxHeartbeats 8000000
set_option maxRecDepth 100000
set_option linter.unusedSimpArgs false
open Go.RowKit
set_option linter.unusedVariables false
theorem Qka{P:Program}{t:TypeId}(A:Option Addr)(len c n size:Nat)(ht:P.underlying t=some (.slice (P.elem t)))(hs:∀ W:World,(sizeOf (P.elem t)).run P W=.ok size W)(hn:n<=len){x:Int}(hx:x=(n:Int))(W:World) :
 (Instr.slice t (.slice A len c) (some (.int .i64 x)) none none).run P W=.ok (.slice (Qhx A c n size) (len-n) (c-n)) W:=by
 subst hx
 rw[run_slice_l (P:=P) W t A len c ht .i64 (n:Int) (by omega) (by omega),hs]
 simp[Result.andThen,sliced,Qhx]
structure TxS (w:World) (z q:Nat) (cs:Array Value) (wr:World):Prop where
 z:Blk wr z 112 #[.slice none 0 0,.slice none 0 0,.slice none 0 0]
 q:Blk wr q 112 cs
 x:Ext w wr
theorem TxS.ext{w w1 w2:World}{z q:Nat}{cs:Array Value}(h:TxS w z q cs w1)(he:Ext w1 w2):TxS w z q cs w2:=⟨h.z.ext he,h.q.ext he,h.x.next he⟩
theorem TxS.frm{w w1 w2:World}{z q e s n:Nat}{v:Value}{xs:List Value}{cs:Array Value}(h:TxS w z q cs w1)(hz:z<q)(hw:w.heap.size<=z)(ho:w1.ownsRow (q+1) e s v n xs)(hf:Frm (fun b=>v.ownBlock=some b) w1 w2):TxS w z q cs w2:=
 ⟨hf.blk h.z (fun e=>by have:=(ho.lt _ e).1;omega),hf.blk h.q (fun e=>by have:=(ho.lt _ e).1;omega),hf.toExt h.x (fun y hy e=>by have:=(ho.lt _ e).1;omega)⟩
theorem TxS.put{w w1:World}{z q:Nat}{cs:Array Value}(h:TxS w z q cs w1)(hz:z<q)(hw:w.heap.size<=z)(j:Nat)(u:Value):TxS w z q (cs.setIfInBounds j u) (w1.setCell ⟨q,j,none⟩ u):=
 ⟨h.z.far (p:=⟨q,j,none⟩) (by show z≠q;omega) u,h.q.set_ j u,Below.setCell h.x (p:=⟨q,j,none⟩) (by show w.heap.size<=q;omega) u⟩
theorem hd_at{l:List Qak}{w:World}{b off:Nat}{k:Nat}{d:Qak}(hc:∀ j u,(l.flatMap Qak.cells)[k*5+j]?=some u->w.cell? ⟨b,off+k*5+j,none⟩=some u)(hd:l[k]?=some d) :
 w.cell? ⟨b,off+k*5,none⟩=some (.int .i64 d.number)/\w.cell? ⟨b,off+k*5+1,none⟩=some (.int .i64 d.size)/\w.cell? ⟨b,off+k*5+2,none⟩=some (.string d.root)/\w.cell? ⟨b,off+k*5+3,none⟩=some (.int .i64 d.taken)/\w.cell? ⟨b,off+k*5+4,none⟩=some (.string d.takenRoot):=
 ⟨hc 0 _ (Qa9 _ 5 Qak.cells_length l k 0 d hd (by omega)),hc 1 _ (Qa9 _ 5 Qak.cells_length l k 1 d hd (by omega)),hc 2 _ (Qa9 _ 5 Qak.cells_length l k 2 d hd (by omega)),hc 3 _ (Qa9 _ 5 Qak.cells_length l k 3 d hd (by omega)),hc 4 _ (Qa9 _ 5 Qak.cells_length l k 4 d hd (by omega))⟩
structure TxOk (b:Qad):Prop where
 e:∀ e∈b.log.entries,e.Ok
 r:∀ r∈b.receipts,r.Ok
 h:0<b.heads.length
 n:BSz b
theorem Qq9(b:Qad)(g:Nat)(A0:Option Addr)(a0:Nat)(A1:Option Addr)(a1:Nat)(A2:Option Addr)(a2:Nat)(A3:Option Addr)(a3:Nat)(A4:Option Addr)(a4:Nat)(w:World)(hb:Blk w g 37 #[.int .i64 b.width,.slice A0 b.log.entries.length a0,.slice A1 b.receipts.length a1,.slice A2 b.heads.length a2,.int .i64 b.sealed.leaves.size,.slice A3 b.sealed.leaves.peaks.length a3,.int .i64 b.sealed.taken.size,.slice A4 b.sealed.taken.peaks.length a4,.int .i64 b.sealed.head.number,.int .i64 b.sealed.head.size,.string b.sealed.head.root,.int .i64 b.sealed.head.taken,.string b.sealed.head.takenRoot])(s:BArg AnyB w b A0 a0 A1 a1 A2 a2 A3 a3 A4 a4)(hk:TxOk b) :
 Calls Tryz.prog 105 #[.pointer (some ⟨g,0,none⟩)] w fun e w'=>∃ V0 c0 V1 c1 V2 c2,e=.returned (.agg #[.slice V0 (Qct b).length c0,.slice V1 (Qcz b).length c1,.slice V2 (Qde b).length c2])/\RowT w.heap.size w' (.slice V0 (Qct b).length c0) (Qct b)/\RowT w.heap.size w' (.slice V1 (Qcz b).length c1) (Qcz b)/\RowT w.heap.size w' (.slice V2 (Qde b).length c2) (Qde b)/\Ext w w':=by
 obtain⟨i0,hi,hz0,hz1,hz2⟩:=info_parts infS
 obtain⟨B0,B1,he⟩:=Qcq w #[.slice none 0 0,.slice none 0 0,.slice none 0 0] #[.slice none 0 0,.slice none 0 0,.slice none 0 0] 112 112
 have hgw:=hb.lt
 have BG:=hU hb;have S0:=hU s;have HK:=hU hk;clear hb s hk
 have He:=hU he
 go_enter Tryz.func105,Tryz.ntmps105
 go_upto_region 2 with fail
 obtain⟨z,hz⟩:∃ z,z=w.heap.size:=⟨_,rfl⟩
 obtain⟨q,hq⟩:∃ q,q=w.heap.size+1:=⟨_,rfl⟩
 rw[<-hz] at B0
 rw[<-hq] at B1
 rw[<-hq,<-hz]
 have zq:z<q:=by omega
 have zw:w.heap.size<=z:=by omega
 clear hz hq He
 generalize (w.alloc (.cells #[.slice none 0 0,.slice none 0 0,.slice none 0 0] 112)).alloc (.cells #[.slice none 0 0,.slice none 0 0,.slice none 0 0] 112)=w0 at *
 have tx:TxS w z q #[.slice none 0 0,.slice none 0 0,.slice none 0 0] w0:=⟨B0,B1,he⟩
 clear B0 B1 he
 have G1:=BG.out.ext tx.x
 obtain⟨rg,fg⟩:=G1.rules
 go_wp2_with fail
 have TX:=hU tx
 clear tx
 go_loopw [22] (fun i wr=>∃(k:Nat) (V:Option Addr) (cv:Nat),k<=b.log.entries.length/\i=.int .i64 k/\TxS w z q #[.slice V k cv,.slice none 0 0,.slice none 0 0] wr/\wr.ownsRow (q+1) 9 1 (.slice V k cv) k (((b.log.entries.take k).map (Qa3)).flatMap sone)) (fun i _=>b.log.entries.length-(intOf i).toNat)
 case atStart=>exact⟨0,none,0,Nat.zero_le _,rfl,TX.out,World.ownsRow_nil _ _ _ _⟩
 case round=>
  clear TX rg fg G1
  obtain⟨k,V0,c0,hk,rfl,tx,ko⟩:=hrel
  by_cases hlt:k<b.log.entries.length
  case neg=>
   obtain rfl:k=b.log.entries.length:=by omega
   rw[List.take_length] at ko
   obtain⟨n0,hn⟩:∃ n0,n0=b.log.entries.length:=⟨_,rfl⟩
   rw[<-hn] at tx ko
   have HN0:=hU (show n0=(Qct b).length by rw[hn];rw[Qct,List.length_map])
   have fr0:wr.ownsRow (q+1) 9 1 (.slice V0 n0 c0) n0 ((Qct b).flatMap sone):=ko
   clear ko hlt hk hn
   have G1:=BG.out.ext tx.x
   obtain⟨rg,fg⟩:=G1.rules
   obtain⟨hs,hhs⟩:∃ hs,hs=b.heads.drop 1:=⟨_,rfl⟩
   have hsl:b.heads.length-1=hs.length:=by rw[hhs,List.length_drop]
   have RF:=fun W=>Qka (P:=Tryz.prog) (t:=28) A2 b.heads.length a2 1 5 Tryz.underlying28 (fun W=>by kernel_rfl) (by have:=HK.out.h;omega) (x:=1) rfl W
   have hr5:=Qiu Qak.cells_length S0.out.h.reads (c:=a2) (n:=1) (m:=b.heads.length) (by have:=HK.out.h;omega) (Nat.le_refl _) S0.out.h.le
   rw[show(b.heads.drop 1).take (b.heads.length-1)=hs by rw[hhs,List.take_of_length_le (by rw[List.length_drop];omega)]] at hr5
   obtain⟨A5,hA5⟩:∃ A5,A5=Qhx A2 a2 1 5:=⟨_,rfl⟩
   obtain⟨a5,ha5⟩:∃ a5,a5=a2-1:=⟨_,rfl⟩
   rw[<-hA5] at hr5
   rw[<-hA5,hsl,<-ha5] at RF
   have HR5:=hU hr5;have HHS:=hU hhs
   have hs1:hs.length<=1048576:=by have:=HK.out.n.h;omega
   clear hhs hsl hA5 ha5 hr5
   go_wp2_with fail
   have TX:=hU tx;have H0:=hU fr0
   clear tx fr0
   go_loopw [44] (fun i wr=>∃(k:Nat) (V:Option Addr) (cv:Nat),k<=hs.length/\i=.int .i64 k/\TxS w z q #[.slice V0 n0 c0,.slice V k cv,.slice none 0 0] wr/\wr.ownsRow (q+1) 9 1 (.slice V k cv) k (((hs.take k).map (Qa4 b.width)).flatMap sone)/\wr.ownsRow (q+1) 9 1 (.slice V0 n0 c0) n0 ((Qct b).flatMap sone)/\(∀ x,(Value.slice V0 n0 c0).ownBlock=some x->(Value.slice V k cv).ownBlock≠some x)) (fun i _=>hs.length-(intOf i).toNat)
   case atStart=>exact⟨0,none,0,Nat.zero_le _,rfl,TX.out,World.ownsRow_nil _ _ _ _,H0.out,(fun x hx h=>by cases h)⟩
   case round=>
    clear TX rg fg G1 H0 RF
    obtain⟨k,V1,c1,hk,rfl,tx,ko,fr0,ap0⟩:=hrel
    by_cases hlt:k<hs.length
    case neg=>
     obtain rfl:k=hs.length:=by omega
     rw[List.take_length] at ko
     obtain⟨n1,hn⟩:∃ n1,n1=hs.length:=⟨_,rfl⟩
     rw[<-hn] at tx ko ap0
     have HN1:=hU (show n1=(Qcz b).length by rw[hn];rw[Qcz,List.length_map,<-HHS.out])
     have fr1:wr.ownsRow (q+1) 9 1 (.slice V1 n1 c1) n1 ((Qcz b).flatMap sone):=by rw[Qcz,<-HHS.out];exact ko
     clear ko hlt hk hn ap0
     have G1:=BG.out.ext tx.x
     obtain⟨rg,fg⟩:=G1.rules
     go_wp2_with fail
     have TX:=hU tx;have H0:=hU fr0;have H1:=hU fr1
     clear tx fr0 fr1
     go_loopw [69] (fun i wr=>∃(k:Nat) (V:Option Addr) (cv:Nat),k<=b.receipts.length/\i=.int .i64 k/\TxS w z q #[.slice V0 n0 c0,.slice V1 n1 c1,.slice V k cv] wr/\wr.ownsRow (q+1) 9 1 (.slice V k cv) k (((b.receipts.take k).map (Qan)).flatMap sone)/\wr.ownsRow (q+1) 9 1 (.slice V0 n0 c0) n0 ((Qct b).flatMap sone)/\wr.ownsRow (q+1) 9 1 (.slice V1 n1 c1) n1 ((Qcz b).flatMap sone)/\(∀ x,(Value.slice V0 n0 c0).ownBlock=some x->(Value.slice V k cv).ownBlock≠some x)/\(∀ x,(Value.slice V1 n1 c1).ownBlock=some x->(Value.slice V k cv).ownBlock≠some x)) (fun i _=>b.receipts.length-(intOf i).toNat)
     case atStart=>exact⟨0,none,0,Nat.zero_le _,rfl,TX.out,World.ownsRow_nil _ _ _ _,H0.out,H1.out,(fun x hx h=>by cases h),(fun x hx h=>by cases h)⟩
     case round=>
      clear TX rg fg G1 H0 H1
      obtain⟨k,V2,c2,hk,rfl,tx,ko,fr0,fr1,ap0,ap1⟩:=hrel
      by_cases hlt:k<b.receipts.length
      case neg=>
       obtain rfl:k=b.receipts.length:=by omega
       rw[List.take_length] at ko
       obtain⟨n2,hn⟩:∃ n2,n2=b.receipts.length:=⟨_,rfl⟩
       rw[<-hn] at tx ko ap0 ap1
       have HN2:=hU (show n2=(Qde b).length by rw[hn];rw[Qde,List.length_map])
       have fr2:wr.ownsRow (q+1) 9 1 (.slice V2 n2 c2) n2 ((Qde b).flatMap sone):=ko
       clear ko hlt hk hn ap0 ap1
       have Z:=hU (Qas tx.z [.slice V0 n0 c0,.slice V1 n1 c1,.slice V2 n2 c2] rfl)
       have X:=hU (Qaa zw [.slice V0 n0 c0,.slice V1 n1 c1,.slice V2 n2 c2] 0 _ tx.x)
       have R0:=hU (Qa2 (B:=w.heap.size) (g:=z) fr0 (by omega) (by omega) [.slice V0 n0 c0,.slice V1 n1 c1,.slice V2 n2 c2] 0)
       have R1:=hU (Qa2 (B:=w.heap.size) (g:=z) fr1 (by omega) (by omega) [.slice V0 n0 c0,.slice V1 n1 c1,.slice V2 n2 c2] 0)
       have R2:=hU (Qa2 (B:=w.heap.size) (g:=z) fr2 (by omega) (by omega) [.slice V0 n0 c0,.slice V1 n1 c1,.slice V2 n2 c2] 0)
       obtain⟨rq,fq⟩:=tx.q.rules
       obtain⟨rz,fz⟩:=tx.z.rules
       clear tx fr0 fr1 fr2
       go_wp2_with fail
       have m0:=HN0.out;have m1:=HN1.out;have m2:=HN2.out
       clear HN0 HN1 HN2
       subst m0;subst m1;subst m2
       exact Qdc rfl rfl Z.out Tryz.underlying112 rfl (by kernel_rfl) rfl ⟨_,_,_,_,_,_,rfl,R0.out,R1.out,R2.out,X.out⟩
      have hln:b.receipts.length<=1048576:=HK.out.n.r
      obtain⟨b_,off,rfl,hb_,hc⟩:=Qbb.at_ (S0.out.ext tx.x).r.reads (k:=k) hlt
      obtain⟨d,hd⟩:∃ d,d=b.receipts[k]:=⟨_,rfl⟩
      have hdl:b.receipts[k]?=some d:=by rw[hd];exact List.getElem?_eq_getElem hlt
      have HDO:=hU (HK.out.r d (List.mem_of_getElem? hdl))
      have Hdl:=hU hdl
      obtain⟨d0,d1,d2⟩:=Qly hc hdl
      clear hc hd hdl
      go_wp2_with fail
      refine(Qet d _ HDO.out).mono ?_
      rintro e w1 ⟨rfl,h1⟩
      have h2:Ext wr w1:=by first|exact h1|exact Ext.next (Ext.new (Below.refl wr.heap.size wr) _) h1
      replace tx:=tx.ext h2;replace ko:=Qag ko h2;replace fr0:=Qag fr0 h2;replace fr1:=Qag fr1 h2
      clear h1 h2 d0 d1 d2
      obtain⟨x,hx⟩:∃ x,x=Qan d:=⟨_,rfl⟩
      rw[<-hx]
      have HX:=hU hx;clear hx
      have hw1:=tx.q.lt
      obtain⟨rq,fq⟩:=tx.q.rules
      have TX:=hU tx;have KO:=hU ko;have H0:=hU fr0;have AP0:=hU ap0;have H1:=hU fr1;have AP1:=hU ap1
      clear tx ko fr0 ap0 fr1 ap1
      go_wp2_with (at_builtin;refine Qap _ rfl _ _ 29 rfl (q+1) 9 i0 _ 1 16 Tryz.underlying29 hi hz0 hz1 hz2 rfl (by decide) _ _ _ rfl (KO.out.alloc _) ⟨w1.heap.size,0,none⟩ 1 1 [.string x] rfl rfl ?x12 ?x22 ?x32 ?x42 ?x52 ?_)
      case x12=>exact(Blk.new w1 9 #[.string x]).adds
      case x22=>intro u hu;simp at hu;subst hu;rfl
      case x32=>unfold maxLen;omega
      case x42=>omega
      case x52=>simp;omega
      intro v' w2 hown' hfrm hmv
      clear rq fq
      have h2:=Ext.new (Below.refl w1.heap.size w1) (.cells #[.string x] 9)
      obtain⟨V',cv',rfl,_⟩:=Qae hown'
      have tx:=(TX.out.ext h2).frm zq zw (Qag KO.out h2) hfrm
      have g0:=hfrm.own (Qag H0.out h2) (fun y hy e=>AP0.out y hy e)
      have g1:=hfrm.own (Qag H1.out h2) (fun y hy e=>AP1.out y hy e)
      have aq0:∀ x,(Value.slice V0 n0 c0).ownBlock=some x->(Value.slice V' (k+1) cv').ownBlock≠some x:=fun y hy e=>by
       rcases hmv y e with h|h
       · exact AP0.out y hy h
       · have h5:=(H0.out.lt y hy).2
         (try rw[World.size_alloc] at h)
         omega
      have aq1:∀ x,(Value.slice V1 n1 c1).ownBlock=some x->(Value.slice V' (k+1) cv').ownBlock≠some x:=fun y hy e=>by
       rcases hmv y e with h|h
       · exact AP1.out y hy h
       · have h5:=(H1.out.lt y hy).2
         (try rw[World.size_alloc] at h)
         omega
      obtain⟨hkl,hkd⟩:=List.getElem?_eq_some_iff.1 Hdl.out
      have e2:((b.receipts.take k).map (Qan)).flatMap sone++[.string x]=((b.receipts.take (k+1)).map (Qan)).flatMap sone:=by rw[List.take_succ_eq_append_getElem hkl,List.map_append,List.flatMap_append,hkd,HX.out];simp[sone]
      rw[<-List.map_take,e2] at hown'
      obtain⟨rq,fq⟩:=tx.q.rules
      have TX2:=hU (tx.put zq zw 2 (.slice V' (k+1) cv'))
      have O2:=hU (Qa2 (B:=q+1) (g:=q) hown' (by omega) (Nat.le_refl _) [.slice V' (k+1) cv'] 2)
      have GF0:=hU (Qa2 (B:=q+1) (g:=q) g0 (by omega) (Nat.le_refl _) [.slice V' (k+1) cv'] 2);have AQ0:=hU aq0
      have GF1:=hU (Qa2 (B:=q+1) (g:=q) g1 (by omega) (Nat.le_refl _) [.slice V' (k+1) cv'] 2);have AQ1:=hU aq1
      clear hown' hfrm hmv hkd e2 KO TX tx h2 H0 AP0 g0 aq0 H1 AP1 g1 aq1
      go_wp2_with fail
      go_roundw
      case rel=>exact⟨k+1,V',cv',by omega,by go_num,TX2.out,O2.out,GF0.out,GF1.out,AQ0.out,AQ1.out⟩
      case measure=>simp[intOf];omega
    have hln:hs.length<=1048576:=hs1
    obtain⟨b_,off,rfl,hb_,hc⟩:=Qbb.at_ (HR5.out.ext tx.x) (k:=k) hlt
    obtain⟨d,hd⟩:∃ d,d=hs[k]:=⟨_,rfl⟩
    have hdl:hs[k]?=some d:=by rw[hd];exact List.getElem?_eq_getElem hlt
    have Hdl:=hU hdl
    obtain⟨d0,d1,d2,d3,d4⟩:=hd_at hc hdl
    clear hc hd hdl
    go_upto_region 11 with fail
    have KD:=Blk.new wr 33 #[.int .i64 d.number,.int .i64 d.size,.string d.root,.int .i64 d.taken,.string d.takenRoot]
    have h2:=Ext.new (Below.refl wr.heap.size wr) (.cells #[.int .i64 d.number,.int .i64 d.size,.string d.root,.int .i64 d.taken,.string d.takenRoot] 33)
    replace tx:=tx.ext h2;replace ko:=Qag ko h2;replace fr0:=Qag fr0 h2
    obtain⟨p9,hp9⟩:∃ p9,p9=wr.heap.size:=⟨_,rfl⟩
    rw[<-hp9] at KD
    rw[<-hp9]
    clear hp9 h2 d0 d1 d2 d3 d4
    generalize wr.alloc (.cells #[.int .i64 d.number,.int .i64 d.size,.string d.root,.int .i64 d.taken,.string d.takenRoot] 33)=w3 at *
    have G3:=BG.out.ext tx.x
    refine wp_region_held_drew (S:=fun w'=>Blk w' g 37 #[.int .i64 b.width,.slice A0 b.log.entries.length a0,.slice A1 b.receipts.length a1,.slice A2 b.heads.length a2,.int .i64 b.sealed.leaves.size,.slice A3 b.sealed.leaves.peaks.length a3,.int .i64 b.sealed.taken.size,.slice A4 b.sealed.taken.peaks.length a4,.int .i64 b.sealed.head.number,.int .i64 b.sealed.head.size,.string b.sealed.head.root,.int .i64 b.sealed.head.taken,.string b.sealed.head.takenRoot]/\Blk w' p9 33 #[.int .i64 d.number,.int .i64 d.size,.string d.root,.int .i64 d.taken,.string d.takenRoot]/\Ext w3 w') (by kernel_rfl) ⟨G3.drew,KD.drew,(Below.refl _ _).drew⟩ (fun hH=>?_)
    clear G3 KD
    refine tk 0 (.pointer (some ⟨g,0,none⟩)) (some 49) hH ?_
    try simp only[zA]
    refine tk 1 (.pointer (some ⟨g,0,none⟩)) (some 50) hH ?_
    try simp only[zA]
    refine tk 2 (.pointer (some ⟨g,0,none⟩)) (some 51) hH ?_
    try simp only[zA]
    refine Qah 3 (.int .i64 b.width) (some 52) rfl rfl (by kernel_rfl) (Or.inl ⟨by rfl,?yt4⟩) hH ?rt4
    case yt4=>intro w' hS';obtain⟨s0,s1,s2⟩:=hS';obtain⟨r0,f0⟩:=s0.rules;obtain⟨r1,f1⟩:=s1.rules;go_simp;try with_reducible rfl
    try simp only[zA]
    refine Qah 4 (.agg #[.int .i64 d.number,.int .i64 d.size,.string d.root,.int .i64 d.taken,.string d.takenRoot]) (some 53) rfl rfl (by kernel_rfl) (Or.inl ⟨by rfl,?yt5⟩) hH ?rt5
    case yt5=>intro w' hS';obtain⟨s0,s1,s2⟩:=hS';obtain⟨r0,f0⟩:=s0.rules;obtain⟨r1,f1⟩:=s1.rules;go_simp;try with_reducible rfl
    try simp only[zA]
    refine oneH 5 (oi:=_) (some 54) (by kernel_rfl) rfl rfl rfl (fun K' hK=>?_)
    refine⟨?_⟩
    rw[if_pos (by rfl)]
    go_simp
    refine(Qhv b.width d _).mono ?_
    rintro e w1 ⟨rfl,h1⟩
    refine hK.out _ _ ⟨_,rfl⟩ (⟨hH.1.ext h1,hH.2.1.ext h1,hH.2.2.next h1⟩) (fun hH2=>?_)
    clear hK K' hH h1
    have hH:=hH2
    clear hH2
    try simp only[zB]
    refine Qah 6 (.tuple #[.string (Qa4 b.width d),.bool (Qbc b.width d)]) (some 48) rfl rfl (by kernel_rfl) (Or.inl ⟨by rfl,?yt6⟩) hH ?rt6
    case yt6=>intro w' hS';obtain⟨s0,s1,s2⟩:=hS';obtain⟨r0,f0⟩:=s0.rules;obtain⟨r1,f1⟩:=s1.rules;go_simp;try with_reducible rfl
    try simp only[zA]
    refine Qah 7 (.string (Qa4 b.width d)) (some 55) rfl rfl (by kernel_rfl) (Or.inl ⟨by rfl,?yt7⟩) hH ?rt7
    case yt7=>intro w' hS';obtain⟨s0,s1,s2⟩:=hS';obtain⟨r0,f0⟩:=s0.rules;obtain⟨r1,f1⟩:=s1.rules;go_simp;try with_reducible rfl
    try simp only[zA]
    refine tk 8 (.bool (Qbc b.width d)) (some 56) hH ?_
    try simp only[zA]
    refine Qah 9 (.string (Qa4 b.width d)) (some 10) rfl rfl (by kernel_rfl) (Or.inl ⟨by rfl,?yt9⟩) hH ?rt9
    case yt9=>intro w' hS';obtain⟨s0,s1,s2⟩:=hS';obtain⟨r0,f0⟩:=s0.rules;obtain⟨r1,f1⟩:=s1.rules;go_simp;try with_reducible rfl
    try simp only[zA]
    refine tk 10 (.bool (Qbc b.width d)) (some 11) hH ?_
    try simp only[zA]
    have h2:=hH.2.2
    refine wpAnyH_done (by kernel_rfl) ?_ _
    clear hH
    replace tx:=tx.ext h2;replace ko:=Qag ko h2;replace fr0:=Qag fr0 h2
    clear h2
    obtain⟨x,hx⟩:∃ x,x=Qa4 b.width d:=⟨_,rfl⟩
    rw[<-hx]
    have HX:=hU hx;clear hx
    have hw1:=tx.q.lt
    obtain⟨rq,fq⟩:=tx.q.rules
    have TX:=hU tx;have KO:=hU ko;have H0:=hU fr0;have AP0:=hU ap0
    clear tx ko fr0 ap0
    go_wp2_with (at_builtin;refine Qap _ rfl _ _ 29 rfl (q+1) 9 i0 _ 1 16 Tryz.underlying29 hi hz0 hz1 hz2 rfl (by decide) _ _ _ rfl (KO.out.alloc _) ⟨w1.heap.size,0,none⟩ 1 1 [.string x] rfl rfl ?x11 ?x21 ?x31 ?x41 ?x51 ?_)
    case x11=>exact(Blk.new w1 9 #[.string x]).adds
    case x21=>intro u hu;simp at hu;subst hu;rfl
    case x31=>unfold maxLen;omega
    case x41=>omega
    case x51=>simp;omega
    intro v' w2 hown' hfrm hmv
    clear rq fq
    have h2:=Ext.new (Below.refl w1.heap.size w1) (.cells #[.string x] 9)
    obtain⟨V',cv',rfl,_⟩:=Qae hown'
    have tx:=(TX.out.ext h2).frm zq zw (Qag KO.out h2) hfrm
    have g0:=hfrm.own (Qag H0.out h2) (fun y hy e=>AP0.out y hy e)
    have aq0:∀ x,(Value.slice V0 n0 c0).ownBlock=some x->(Value.slice V' (k+1) cv').ownBlock≠some x:=fun y hy e=>by
     rcases hmv y e with h|h
     · exact AP0.out y hy h
     · have h5:=(H0.out.lt y hy).2
       (try rw[World.size_alloc] at h)
       omega
    obtain⟨hkl,hkd⟩:=List.getElem?_eq_some_iff.1 Hdl.out
    have e2:((hs.take k).map (Qa4 b.width)).flatMap sone++[.string x]=((hs.take (k+1)).map (Qa4 b.width)).flatMap sone:=by rw[List.take_succ_eq_append_getElem hkl,List.map_append,List.flatMap_append,hkd,HX.out];simp[sone]
    rw[<-List.map_take,e2] at hown'
    obtain⟨rq,fq⟩:=tx.q.rules
    have TX2:=hU (tx.put zq zw 1 (.slice V' (k+1) cv'))
    have O2:=hU (Qa2 (B:=q+1) (g:=q) hown' (by omega) (Nat.le_refl _) [.slice V' (k+1) cv'] 1)
    have GF0:=hU (Qa2 (B:=q+1) (g:=q) g0 (by omega) (Nat.le_refl _) [.slice V' (k+1) cv'] 1);have AQ0:=hU aq0
    clear hown' hfrm hmv hkd e2 KO TX tx h2 H0 AP0 g0 aq0
    go_wp2_with fail
    go_roundw
    case rel=>exact⟨k+1,V',cv',by omega,by go_num,TX2.out,O2.out,GF0.out,AQ0.out⟩
    case measure=>simp[intOf];omega
  have hln:b.log.entries.length<=1048576:=HK.out.n.e
  obtain⟨b_,off,rfl,hb_,hc⟩:=Qbb.at_ (S0.out.ext tx.x).e.reads (k:=k) hlt
  obtain⟨d,hd⟩:∃ d,d=b.log.entries[k]:=⟨_,rfl⟩
  have hdl:b.log.entries[k]?=some d:=by rw[hd];exact List.getElem?_eq_getElem hlt
  have HDO:=hU (HK.out.e d (List.mem_of_getElem? hdl))
  have Hdl:=hU hdl
  obtain⟨d0,d1,d2,d3,d4⟩:=Qdt hc hdl
  clear hc hd hdl
  go_wp2_with fail
  refine(Qgr d _ HDO.out).mono ?_
  rintro e w1 ⟨rfl,h1⟩
  have h2:Ext wr w1:=by first|exact h1|exact Ext.next (Ext.new (Below.refl wr.heap.size wr) _) h1
  replace tx:=tx.ext h2;replace ko:=Qag ko h2
  clear h1 h2 d0 d1 d2 d3 d4
  obtain⟨x,hx⟩:∃ x,x=Qa3 d:=⟨_,rfl⟩
  rw[<-hx]
  have HX:=hU hx;clear hx
  have hw1:=tx.q.lt
  obtain⟨rq,fq⟩:=tx.q.rules
  have TX:=hU tx;have KO:=hU ko
  clear tx ko
  go_wp2_with (at_builtin;refine Qap _ rfl _ _ 29 rfl (q+1) 9 i0 _ 1 16 Tryz.underlying29 hi hz0 hz1 hz2 rfl (by decide) _ _ _ rfl (KO.out.alloc _) ⟨w1.heap.size,0,none⟩ 1 1 [.string x] rfl rfl ?x10 ?x20 ?x30 ?x40 ?x50 ?_)
  case x10=>exact(Blk.new w1 9 #[.string x]).adds
  case x20=>intro u hu;simp at hu;subst hu;rfl
  case x30=>unfold maxLen;omega
  case x40=>omega
  case x50=>simp;omega
  intro v' w2 hown' hfrm hmv
  clear rq fq
  have h2:=Ext.new (Below.refl w1.heap.size w1) (.cells #[.string x] 9)
  obtain⟨V',cv',rfl,_⟩:=Qae hown'
  have tx:=(TX.out.ext h2).frm zq zw (Qag KO.out h2) hfrm
  obtain⟨hkl,hkd⟩:=List.getElem?_eq_some_iff.1 Hdl.out
  have e2:((b.log.entries.take k).map (Qa3)).flatMap sone++[.string x]=((b.log.entries.take (k+1)).map (Qa3)).flatMap sone:=by rw[List.take_succ_eq_append_getElem hkl,List.map_append,List.flatMap_append,hkd,HX.out];simp[sone]
  rw[<-List.map_take,e2] at hown'
  obtain⟨rq,fq⟩:=tx.q.rules
  have TX2:=hU (tx.put zq zw 0 (.slice V' (k+1) cv'))
  have O2:=hU (Qa2 (B:=q+1) (g:=q) hown' (by omega) (Nat.le_refl _) [.slice V' (k+1) cv'] 0)
  clear hown' hfrm hmv hkd e2 KO TX tx h2
  go_wp2_with fail
  go_roundw
  case rel=>exact⟨k+1,V',cv',by omega,by go_num,TX2.out,O2.out⟩
  case measure=>simp[intOf];omega
end Go.Proofs.YtbnkjgcpjeedfaaGreat

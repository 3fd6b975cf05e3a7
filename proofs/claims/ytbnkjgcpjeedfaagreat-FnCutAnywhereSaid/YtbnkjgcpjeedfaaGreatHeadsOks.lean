/-
  HeadTx; GrowA; MoreB; FollowsB; HeadsOks: No condition.
-/
import Derived.Test.YtbnkjgcpjeedfaaGreatReadHd
import Derived.Test.YtbnkjgcpjeedfaaGreatBunch
import Derived.Test.YtbnkjgcpjeedfaaGreatReopenR
import Derived.Test.YtbnkjgcpjeedfaaGreatBrkNew
import Derived.Test.YtbnkjgcpjeedfaaGreatBrkV
namespace Go.Proofs.YtbnkjgcpjeedfaaGreat
set_option maxHeartbeats 2000000
set_option maxRecDepth 100000
set_option linter.unusedSimpArgs false
open Go.RowKit
set_option linter.unusedVariables false
theorem Qhv(n:Int)(d:Qak)(w:World):Calls Tryz.prog 178 #[.int .i64 n,.agg #[.int .i64 d.number,.int .i64 d.size,.string d.root,.int .i64 d.taken,.string d.takenRoot]] w fun e w'=>e=.returned (.tuple #[.string (Qa4 n d),.bool (Qbc n d)])/\Ext w w':=by
 have B0:=Blk.new w 33 #[.int .i64 d.number,.int .i64 d.size,.string d.root,.int .i64 d.taken,.string d.takenRoot]
 have he:=Ext.new (Below.refl w.heap.size w) (.cells #[.int .i64 d.number,.int .i64 d.size,.string d.root,.int .i64 d.taken,.string d.takenRoot] 33)
 cases b:Qbc n d
 · have Ht:=hU (show Qa4 n d=⟨#[]⟩ by simp[Qa4,b])
   have He:=hU he
   clear B0 he
   go_enter Tryz.func178,Tryz.ntmps178
   go_wp2_with fail
   refine(Qbf n d _).mono ?_
   rintro e w1 ⟨rfl,h1⟩
   have he:=He.out.next h1
   rw[b]
   go_wp2_with fail
   go_ret2
   exact⟨by rw[Ht.out];rfl,he⟩
 · obtain⟨z0,z1,z2,z3,z4,z5,z6,z7,z8,z9⟩:=Qfz b
   obtain⟨p1,hp1⟩:∃ p1,p1=octB (d.number / 256)++octB d.number:=⟨_,rfl⟩
   obtain⟨p2,hp2⟩:∃ p2,p2=octB (d.size / 256)++octB d.size:=⟨_,rfl⟩
   obtain⟨p3,hp3⟩:∃ p3,p3=octB (d.taken / 256)++octB d.taken:=⟨_,rfl⟩
   have C1:=hU (show ∀ W,Calls Tryz.prog 132 #[.int .i64 d.number] W fun e w'=>e=.returned (.string p1)/\Ext W w' from fun W=>by rw[hp1];exact Qhi _ W (by omega) (by omega))
   have C2:=hU (show ∀ W,Calls Tryz.prog 132 #[.int .i64 d.size] W fun e w'=>e=.returned (.string p2)/\Ext W w' from fun W=>by rw[hp2];exact Qhi _ W (by omega) (by omega))
   have C3:=hU (show ∀ W,Calls Tryz.prog 132 #[.int .i64 d.taken] W fun e w'=>e=.returned (.string p3)/\Ext W w' from fun W=>by rw[hp3];exact Qhi _ W (by omega) (by omega))
   have low:∀ k:Int,0<=k->lowB k.toNat 2=octB (k / 256)++octB k:=fun k hk=>by
    rw[Qi2,Int.toNat_of_nonneg hk]
   have Ht:=hU (show Qa4 n d=p1++p2++d.root++p3++d.takenRoot by rw[Qa4,if_pos b,Qx0,low _ z2,low _ z4,low _ z7,hp1,hp2,hp3])
   have y1:p1.size=2:=by rw[hp1];rfl
   have y2:p2.size=2:=by rw[hp2];rfl
   have y3:p3.size=2:=by rw[hp3];rfl
   have n1:¬ 9223372036854775807<p1.size+p2.size:=by omega
   have n2:¬ 9223372036854775807<p1.size+p2.size+d.root.size:=by omega
   have n3:¬ 9223372036854775807<p1.size+p2.size+d.root.size+p3.size:=by omega
   have n4:¬ 9223372036854775807<p1.size+p2.size+d.root.size+p3.size+d.takenRoot.size:=by omega
   clear z0 z1 z2 z3 z4 z5 z6 z7 z8 z9 hp1 hp2 hp3 low y1 y2 y3
   go_enter Tryz.func178,Tryz.ntmps178
   go_wp2_with fail
   obtain⟨g,hg⟩:∃ g,g=w.heap.size:=⟨_,rfl⟩
   rw[<-hg] at B0
   rw[<-hg]
   clear hg
   refine(Qbf n d _).mono ?_
   rintro e w1 ⟨rfl,h1⟩
   replace he:=he.next h1
   replace B0:=B0.ext h1
   rw[b]
   clear h1
   go_upto_region 3 with fail
   refine wp_region_held_drew (S:=fun w'=>Blk w' g 33 #[.int .i64 d.number,.int .i64 d.size,.string d.root,.int .i64 d.taken,.string d.takenRoot]/\Ext w w') (by kernel_rfl) ⟨B0.drew,he.drew⟩ (fun hH=>?_)
   clear B0 he
   refine tk 0 (.pointer (some ⟨g,0,none⟩)) (some 10) hH ?_
   try simp only[zA]
   refine Qah 1 (.int .i64 d.number) (some 11) rfl rfl (by kernel_rfl) (Or.inl ⟨by rfl,?yh2⟩) hH ?rh2
   case yh2=>intro w' hS';have A0:=hS'.1;obtain⟨r0,f0⟩:=A0.rules;go_simp;try with_reducible rfl
   try simp only[zA]
   refine tk 3 (.pointer (some ⟨g,1,none⟩)) (some 13) hH ?_
   try simp only[zA]
   refine Qah 4 (.int .i64 d.size) (some 14) rfl rfl (by kernel_rfl) (Or.inl ⟨by rfl,?yh4⟩) hH ?rh4
   case yh4=>intro w' hS';have A0:=hS'.1;obtain⟨r0,f0⟩:=A0.rules;go_simp;try with_reducible rfl
   try simp only[zA]
   refine tk 7 (.pointer (some ⟨g,2,none⟩)) (some 17) hH ?_
   try simp only[zA]
   refine Qah 8 (.string d.root) (some 18) rfl rfl (by kernel_rfl) (Or.inl ⟨by rfl,?yh6⟩) hH ?rh6
   case yh6=>intro w' hS';have A0:=hS'.1;obtain⟨r0,f0⟩:=A0.rules;go_simp;try with_reducible rfl
   try simp only[zA]
   refine tk 10 (.pointer (some ⟨g,3,none⟩)) (some 20) hH ?_
   try simp only[zA]
   refine Qah 11 (.int .i64 d.taken) (some 21) rfl rfl (by kernel_rfl) (Or.inl ⟨by rfl,?yh8⟩) hH ?rh8
   case yh8=>intro w' hS';have A0:=hS'.1;obtain⟨r0,f0⟩:=A0.rules;go_simp;try with_reducible rfl
   try simp only[zA]
   refine tk 14 (.pointer (some ⟨g,4,none⟩)) (some 24) hH ?_
   try simp only[zA]
   refine Qah 15 (.string d.takenRoot) (some 25) rfl rfl (by kernel_rfl) (Or.inl ⟨by rfl,?yh10⟩) hH ?rh10
   case yh10=>intro w' hS';have A0:=hS'.1;obtain⟨r0,f0⟩:=A0.rules;go_simp;try with_reducible rfl
   try simp only[zA]
   refine oneH 2 (oi:=_) (some 12) (by kernel_rfl) rfl rfl rfl (fun K' hK=>?_)
   refine⟨?_⟩
   rw[if_pos (by rfl)]
   go_simp
   refine(C1.out _).mono ?_
   rintro e w2 ⟨rfl,h1⟩
   refine hK.out _ _ ⟨_,rfl⟩ (⟨hH.1.ext h1,hH.2.next h1⟩) (fun hH2=>?_)
   clear hK K' hH h1
   have hH:=hH2
   clear hH2
   try simp only[zB]
   refine oneH 5 (oi:=_) (some 15) (by kernel_rfl) rfl rfl rfl (fun K' hK=>?_)
   refine⟨?_⟩
   rw[if_pos (by rfl)]
   go_simp
   refine(C2.out _).mono ?_
   rintro e w2 ⟨rfl,h1⟩
   refine hK.out _ _ ⟨_,rfl⟩ (⟨hH.1.ext h1,hH.2.next h1⟩) (fun hH2=>?_)
   clear hK K' hH h1
   have hH:=hH2
   clear hH2
   try simp only[zB]
   refine Qah 6 (.string (p1++p2)) (some 16) rfl rfl (by kernel_rfl) (Or.inl ⟨by rfl,?yh11⟩) hH ?rh11
   case yh11=>intro w' hS';have A0:=hS'.1;obtain⟨r0,f0⟩:=A0.rules;go_simp;try with_reducible rfl
   try simp only[zA]
   refine Qah 9 (.string (p1++p2++d.root)) (some 19) rfl rfl (by kernel_rfl) (Or.inl ⟨by rfl,?yh12⟩) hH ?rh12
   case yh12=>intro w' hS';have A0:=hS'.1;obtain⟨r0,f0⟩:=A0.rules;go_simp;try with_reducible rfl
   try simp only[zA]
   refine oneH 12 (oi:=_) (some 22) (by kernel_rfl) rfl rfl rfl (fun K' hK=>?_)
   refine⟨?_⟩
   rw[if_pos (by rfl)]
   go_simp
   refine(C3.out _).mono ?_
   rintro e w2 ⟨rfl,h1⟩
   refine hK.out _ _ ⟨_,rfl⟩ (⟨hH.1.ext h1,hH.2.next h1⟩) (fun hH2=>?_)
   clear hK K' hH h1
   have hH:=hH2
   clear hH2
   try simp only[zB]
   refine Qah 13 (.string (p1++p2++d.root++p3)) (some 23) rfl rfl (by kernel_rfl) (Or.inl ⟨by rfl,?yh13⟩) hH ?rh13
   case yh13=>intro w' hS';have A0:=hS'.1;obtain⟨r0,f0⟩:=A0.rules;go_simp;try with_reducible rfl
   try simp only[zA]
   refine Qah 16 (.string (p1++p2++d.root++p3++d.takenRoot)) (some 26) rfl rfl (by kernel_rfl) (Or.inl ⟨by rfl,?yh14⟩) hH ?rh14
   case yh14=>intro w' hS';have A0:=hS'.1;obtain⟨r0,f0⟩:=A0.rules;go_simp;try with_reducible rfl
   try simp only[zA]
   refine Qah 17 (.string (p1++p2++d.root++p3++d.takenRoot)) (some 4) rfl rfl (by kernel_rfl) (Or.inl ⟨by rfl,?yh15⟩) hH ?rh15
   case yh15=>intro w' hS';have A0:=hS'.1;obtain⟨r0,f0⟩:=A0.rules;go_simp;try with_reducible rfl
   try simp only[zA]
   refine tk 18 (.bool true) (some 5) hH ?_
   try simp only[zA]
   have he:=hH.2
   clear hH n1 n2 n3 n4
   refine wpAnyH_done (by kernel_rfl) ?_ _
   go_wp2_with fail
   go_ret2
   exact⟨by rw[Ht.out];rfl,he⟩
set_option maxHeartbeats 4000000
theorem Qt1{cs:Array Value}{o:Nat}{v:Value}(h:cs[o]?=some v):cs.setIfInBounds o v=cs:=by
 obtain⟨ho,rfl⟩:=Array.getElem?_eq_some_iff.1 h
 apply Array.ext_getElem?
 intro i
 rw[Array.getElem?_setIfInBounds]
 split
 · rename_i e;subst e;exact(Array.getElem?_eq_getElem ho).symm
 · rfl
theorem Qwq(cs:Array Value)(o:Nat)(a b a' b':Value):(((cs.setIfInBounds o a).setIfInBounds (o+1) b).setIfInBounds o a').setIfInBounds (o+1) b'=(cs.setIfInBounds o a').setIfInBounds (o+1) b':=by
 rw[Array.setIfInBounds_comm (xs:=cs.setIfInBounds o a) (i:=o+1) (j:=o) _ _ (by omega),Array.setIfInBounds_setIfInBounds,Array.setIfInBounds_setIfInBounds]
theorem SlF.frm{α:Type}{p:Nat->Prop}{f:α->List Value}{size:Nat}{w w':World}{A:Option Addr}{l:List α}{c:Nat}{X:Nat->Prop}(h:SlF p f size w A l c)(hf:Frm X w w')(hp:∀ b,b<w.heap.size->p b->¬ X b):SlF p f size w' A l c:=h.keep (hf.keep hp)
theorem SlF.here{α:Type}{p:Nat->Prop}{f:α->List Value}{size:Nat}{w:World}{A:Option Addr}{l:List α}{c:Nat}(h:SlF p f size w A l c):SlF (fun b=>p b/\b<w.heap.size) f size w A l c:=
 ⟨h.le,h.cap,h.reads,fun hn a e=>⟨h.low hn a e,by obtain⟨b,off,e2,hb,_⟩:=h.reads.2 hn;rw[e] at e2;cases e2;exact hb⟩⟩
theorem Qnq(wd:Int)(hwd:inR wd 1 32=true)(B g T o n:Nat)(cs:Array Value)(v:Value)(s:List ByteArray)(A:Option Addr)(c:Nat)(l:List ByteArray)(w:World)
 (hB:Blk w g T cs) (hT:T≠9) (h0:cs[o]?=some (.int .i64 (n:Int))) (h1:cs[o+1]?=some v) (hown:RowT B w v s.reverse) (hBw:B<=w.heap.size)
 (hs:∀ x∈s,WdT wd x) (hlen:s.length=pc n) (hn:n<=50000) (hl:l.length<=50000)
 (hr:SlF (fun b=>b≠g/\v.ownBlock≠some b) sone 1 w A l c) (hls:∀ x∈l,WdT wd x) :
 Calls Tryz.prog 234 #[.pointer (some ⟨g,o,none⟩),.int .i64 wd,.slice A l.length c] w fun e w'=>∃ m v',e=.returned (.int .i64 m)/\Blk w' g T ((cs.setIfInBounds o (.int .i64 ((n+l.length:Nat):Int))).setIfInBounds (o+1) v')/\
  RowT B w' v' (Qcj (ndB wd) n s l).reverse/\Frm (fun b=>b=g\/v.ownBlock=some b) w w'/\Qhs v v' w.heap.size:=by
 have ho:o+1<cs.size:=(Array.getElem?_eq_some_iff.1 h1).1
 have HR:=hU hr.here;have Hs:=hU hs;have Hlen:=hU hlen;have Hls:=hU hls
 have HB:=hU (show Blk w g T ((cs.setIfInBounds o (.int .i64 ((n+0:Nat):Int))).setIfInBounds (o+1) v) by
  rw[Qt1 (o:=o+1) (by rw[Array.getElem?_setIfInBounds_ne (by omega)];exact h1),Nat.add_zero,Qt1 h0];exact hB)
 have HO:=hU hown
 clear hB h0 h1 hown hs hlen hr hls
 go_enter Tryz.func234,Tryz.ntmps234
 go_wp2_with fail
 go_loopw [7,12] (fun mk i wr=>∃(k:Nat) (mk':Int) (vr:Value),k<=l.length/\i=.int .i64 (k:Int)/\mk=.int .i64 mk'/\Blk wr g T ((cs.setIfInBounds o (.int .i64 ((n+k:Nat):Int))).setIfInBounds (o+1) vr)/\
  RowT B wr vr (Qcj (ndB wd) n s (l.take k)).reverse/\Frm (fun b=>b=g\/v.ownBlock=some b) w wr/\Qhs v vr w.heap.size) (fun _ i _=>l.length-(intOf i).toNat)
 case atStart=>exact⟨0,0,v,Nat.zero_le _,rfl,rfl,HB.out,HO.out,Frm.refl _ w,Qhs.refl _ _⟩
 case round=>
  clear HB HO
  obtain⟨k,mk',vr,hk,rfl,rfl,hB,hO,hF,hM⟩:=hrel
  have HB:=hU hB;have HO:=hU hO;have HF:=hU hF;have HM:=hU hM
  clear hB hO hF hM
  by_cases hlt:k<l.length
  case neg=>
   obtain rfl:k=l.length:=by omega
   go_wp2_with fail
   go_ret
   have:=HO.out
   rw[List.take_length] at this
   exact⟨_,vr,rfl,HB.out,this,HF.out,HM.out⟩
  have hr2:=HR.out.frm HF.out (fun b hb hp hx=>by
   rcases hx with e|e
   · exact hp.1.1 e
   · exact hp.1.2 e)
  obtain⟨b,off,hA,hb,hc⟩:=Qbb.at_ hr2.reads (k:=k) hlt
  obtain⟨d,hd⟩:∃ d,d=l[k]:=⟨_,rfl⟩
  have hdl:l[k]?=some d:=by rw[hd];exact List.getElem?_eq_getElem hlt
  have c0:=hc 0 _ (Qa9 _ 1 Qbw l k 0 _ hdl (by omega))
  rw[Nat.add_zero,Nat.mul_one] at c0
  have Hd:=hU hd
  have hwl:WdT wd d:=by rw[hd];exact Hls.out _ (List.getElem_mem hlt)
  have HWL:=hU hwl
  have C:=grow_any wd hwd B g T o (n+k) _ vr (Qcj (ndB wd) n s (l.take k)) d wr HB.out hT (by rw[Array.getElem?_setIfInBounds_ne (by omega),Array.getElem?_setIfInBounds_self];exact if_pos (by omega)) (by rw[Array.getElem?_setIfInBounds_self];exact if_pos (by simpa using ho)) HO.out (Nat.le_trans hBw HF.out.size)
   (Qg7 (Qkh hwd) _ _ _ Hs.out (fun x hx=>Hls.out x (List.mem_of_mem_take hx))) hwl (by rw[Qg6 (ndB wd) _ _ _ Hlen.out,List.length_take,Nat.min_eq_left hk]) (by omega)
  have CC:=hU C
  subst hA
  clear hc hd hdl hr2 hwl C
  go_wp2_with fail
  refine CC.out.mono ?_
  rintro e w2 ⟨m2,v2,rfl,hB2,hR2,hF2,hM2⟩
  rw[Qwq] at hB2
  have HB2:=hU hB2;have HR2:=hU hR2
  have HF2:=hU (HF.out.next hF2 (fun y hy hx=>by
   rcases hx with e|e
   · exact Or.inl e
   · rcases HM.out y e with h|h
     · exact Or.inr h
     · omega))
  have HM2:=hU (HM.out.trans hM2 HF.out.size)
  clear hB2 hR2 hF2 hM2 c0
  go_wp2_with fail
  go_roundw
  case rel=>
   refine⟨k+1,_,v2,by omega,by go_num,rfl,HB2.out,?_,HF2.out,HM2.out⟩
   have:=HR2.out
   rw[List.take_succ_eq_append_getElem hlt,Qih,List.length_take,Nat.min_eq_left hk,Qi4,Qkt,<-Hd.out]
   exact this
  case measure=>simp[intOf];omega
theorem Qt6{α:Type}(nd:α->α->α)(e:α){ps:List α}{k:Nat}{t:α}(h:ps[k]?=some t)(hk:ps.length=k+1):Qjr nd e ps.reverse=(ps.take k).reverse.foldl (fun r p=>nd p r) t:=by
 obtain⟨hlt,rfl⟩:=List.getElem?_eq_some_iff.1 h
 have:ps=ps.take k++[ps[k]]:=by
  conv=>lhs;rw[<-List.take_length (l:=ps),hk,List.take_succ_eq_append_getElem hlt]
 conv=>lhs;rw[this]
 rw[List.reverse_append,List.reverse_singleton,List.singleton_append,Qjr]
theorem Qr4{α:Type}(nd:α->α->α){ps:List α}{k:Nat}{t r:α}(h:ps[k]?=some t):(ps.take (k+1)).reverse.foldl (fun r p=>nd p r) r=(ps.take k).reverse.foldl (fun r p=>nd p r) (nd t r):=by
 obtain⟨hlt,rfl⟩:=List.getElem?_eq_some_iff.1 h
 rw[List.take_succ_eq_append_getElem hlt,List.reverse_append,List.reverse_singleton,List.singleton_append,List.foldl_cons]
theorem Qt5(wd:Int)(hwd:inR wd 1 32=true)(z:Int)(A:Option Addr)(c:Nat)(ps:List ByteArray)(w:World)(hl:ps.length<=100000)(hr:Qav w w.heap.size sone 1 A ps)(hs:∀ x∈ps,WdT wd x) :
 Calls Tryz.prog 235 #[.agg #[.int .i64 z,.slice A ps.length c],.int .i64 wd] w fun e w'=>∃ m,e=.returned (.tuple #[.string (Qjr (ndB wd) (Qcg wd) ps.reverse),.int .i64 m])/\Ext w w':=by
 have K0:=hU (Blk.new w 31 #[.int .i64 z,.slice A ps.length c])
 have He:=hU (Ext.new (Below.refl w.heap.size w) (.cells #[.int .i64 z,.slice A ps.length c] 31))
 obtain⟨Fn,hFn⟩:∃ Fn,Fn=Qjr (ndB wd) (Qcg wd) ps.reverse:=⟨_,rfl⟩
 have FF:=hU hFn
 have HR:=hU hr;have Hs:=hU hs
 rw[<-hFn]
 rcases Nat.eq_zero_or_pos ps.length with h0|h0
 · obtain rfl:=List.eq_nil_of_length_eq_zero h0
   have E:=hU (show Fn=Qcg wd by rw[hFn];rfl)
   have He:=hU (show Ext w (w.alloc (.cells #[.int .i64 z,.slice A 0 c] 31)) from He.out)
   have K0:=hU (show Blk (w.alloc (.cells #[.int .i64 z,.slice A 0 c] 31)) w.heap.size 31 #[.int .i64 z,.slice A 0 c] from K0.out)
   show Calls Tryz.prog 235 #[.agg #[.int .i64 z,.slice A 0 c],.int .i64 wd] w _
   clear hFn hr hs h0 HR Hs hl
   go_enter Tryz.func235,Tryz.ntmps235
   go_wp2_with fail
   refine(Qhq wd _).mono ?_
   rintro e w1 ⟨rfl,h1⟩
   have he:=He.out.next h1
   clear h1
   go_wp2_with fail
   go_ret2
   exact⟨0,by rw[E.out];rfl,he⟩
 obtain⟨k,hk⟩:∃ k,ps.length=k+1:=⟨ps.length-1,by omega⟩
 obtain⟨b,off,rfl,hb,hc⟩:=hr.2 h0
 obtain⟨t,ht⟩:∃ t,ps[k]?=some t:=⟨ps[k]'(by omega),List.getElem?_eq_getElem (by omega)⟩
 have hcell:∀(j:Nat) (x:ByteArray),ps[j]?=some x->w.cell? ⟨b,off+j,none⟩=some (.string x):=fun j x hx=>by
  have:=hc (j*1+0) (.string x) (by rw[Qa9 sone 1 Qbw ps j 0 x hx (by omega)];rfl)
  rwa [Nat.mul_one,Nat.add_zero] at this
 have c0:=hcell k t ht
 have HC:=hU hcell
 have hst:WdT wd t:=hs t (List.mem_of_getElem? ht)
 have ST:=hU (show Fn=(ps.take k).reverse.foldl (fun r p=>ndB wd p r) t by rw[hFn];exact Qt6 _ _ ht hk)
 have HST:=hU hst
 have c1:(w.alloc (.cells #[.int .i64 z,.slice (some ⟨b,off,none⟩) ps.length c] 31)).cell? ⟨b,off+k,none⟩=some (.string t):=(He.out.cell (p:=⟨b,off+k,none⟩) hb).trans c0
 obtain⟨L,hL⟩:∃ L,L=ps.length:=⟨_,rfl⟩
 rw[<-hL] at hl K0 He h0 hk c1
 rw[<-hL]
 have hlL:L<=9223372036854775807:=by omega
 have e1:(L:Int)-1=(k:Int):=by omega
 have e2:IntKind.i64.wrap (k:Int)=(k:Int):=IntWalk.i64_in _ (by omega)
 have hkL:k<L:=by omega
 have hkL2:k<=100000:=by omega
 have e0:((L:Int)==0)=false:=beq_false_of_ne (by omega)
 have e0':¬ (L=0):=by omega
 have HL:=hU hL
 clear hFn hr hs hc hcell ht c0 hst hk hL
 go_enter Tryz.func235,Tryz.ntmps235
 go_wp2_with fail
 obtain⟨g,hg⟩:∃ g,g=w.heap.size:=⟨_,rfl⟩
 rw[<-hg] at K0
 rw[<-hg]
 have Hg:w.heap.size<=g:=by omega
 clear c1 hg
 go_loopw [7,8] (fun rt i wr=>∃(j:Nat) (r:ByteArray),j<=k/\i=.int .i64 ((j:Int)-1)/\rt=.string r/\(ps.take j).reverse.foldl (fun r p=>ndB wd p r) r=Fn/\WdT wd r/\Blk wr g 31 #[.int .i64 z,.slice (some ⟨b,off,none⟩) L c]/\Ext w wr) (fun _ i _=>(intOf i+1).toNat)
 case atStart=>exact⟨k,t,Nat.le_refl _,by go_num,rfl,ST.out.symm,HST.out,K0.out,He.out⟩
 case round=>
  clear K0 He
  obtain⟨j,r,hj,rfl,rfl,hF,hw,k0,he⟩:=hrel
  have HF:=hU hF;have HW:=hU hw
  obtain⟨hcr,hfr⟩:=k0.rules
  have K0:=hU k0
  clear hF hw k0
  rcases Nat.eq_zero_or_pos j with j0|j0
  · subst j0
    have E:=hU (show r=Fn from HF.out)
    go_wp2_with fail
    go_ret2
    exact⟨(k:Int),by rw[E.out];rfl,he⟩
  obtain⟨i,hi⟩:∃ i,j=i+1:=⟨j-1,by omega⟩
  subst hi
  obtain⟨x,hx⟩:∃ x,ps[i]?=some x:=⟨ps[i]'(by have:=HL.out;omega),List.getElem?_eq_getElem (by have:=HL.out;omega)⟩
  have c2:wr.cell? ⟨b,off+i,none⟩=some (.string x):=(he.cell (p:=⟨b,off+i,none⟩) hb).trans (HC.out i x hx)
  have hxs:WdT wd x:=Hs.out x (List.mem_of_getElem? hx)
  have FN:=hU (show(ps.take i).reverse.foldl (fun r p=>ndB wd p r) (ndB wd x r)=Fn by rw[<-Qr4 _ hx];exact HF.out)
  have hw2:=Qa0 hwd
  have sx:x.size<=1000:=by unfold WdT at hxs;omega
  have sr:r.size<=1000:=by have:=HW.out;unfold WdT at this;omega
  have HJ:=hU (Qkh hwd x r hxs HW.out)
  have e3:((i+1:Nat):Int)-1=(i:Int):=by omega
  have e4:IntKind.i64.wrap (i:Int)=(i:Int):=IntWalk.i64_in _ (by omega)
  have hiL:i<L:=by omega
  have d0:decide ((0:Int)<=(i:Int))=true:=decide_eq_true (by omega)
  rw[e3]
  clear hx hxs HF HW
  go_wp2_with fail
  refine(Qua wd x r _ sx sr).mono ?_
  rintro e w2 ⟨rfl,h1⟩
  replace K0:=hU (K0.out.ext h1);replace he:=he.next h1
  clear h1 hcr hfr c2
  go_wp2_with fail
  go_roundw
  case rel=>exact⟨i,_,by omega,by go_num,rfl,FN.out,HJ.out,K0.out,he⟩
  case measure=>simp[intOf]
theorem Qge{pre mid post:List Value}{o:Nat}(hp:pre.length=o)(k:Nat)(hk:k<mid.length):(pre++mid++post).toArray[o+k]?=mid[k]?:=by
 subst hp
 rw[List.getElem?_toArray,List.append_assoc,List.getElem?_append_right (by omega),Nat.add_sub_cancel_left,List.getElem?_append_left hk]
theorem Qp2{pre mid post:List Value}{o:Nat}(hp:pre.length=o)(k:Nat)(hk:k<mid.length)(x:Value):(pre++mid++post).toArray.setIfInBounds (o+k) x=(pre++mid.set k x++post).toArray:=by
 subst hp
 rw[List.setIfInBounds_toArray,List.append_assoc,List.set_append_right _ _ (by omega),Nat.add_sub_cancel_left,List.set_append_left _ _ hk,List.append_assoc]
def Qb1 (n1:Int) (v1:Value) (n2:Int) (v2:Value) (h:Qak):List Value:=[.int .i64 n1,v1,.int .i64 n2,v2,.int .i64 h.number,.int .i64 h.size,.string h.root,.int .i64 h.taken,.string h.takenRoot]
theorem put_mid{w:World}{g T o:Nat}{pre post:List Value}{n1 n2:Int}{v1 v2:Value}{h h':Qak}(hB:Blk w g T (pre++Qb1 n1 v1 n2 v2 h++post).toArray)(hp:pre.length=o):Blk (w.setCells g (o+4) [.int .i64 h'.number,.int .i64 h'.size,.string h'.root,.int .i64 h'.taken,.string h'.takenRoot]) g T (pre++Qb1 n1 v1 n2 v2 h'++post).toArray:=by
 subst hp
 refine hB.put (pre.length+4) [.int .i64 h'.number,.int .i64 h'.size,.string h'.root,.int .i64 h'.taken,.string h'.takenRoot] _ (by simp[Qb1];omega) ?_
 have a:(pre++Qb1 n1 v1 n2 v2 h++post).take (pre.length+4)=pre++[.int .i64 n1,v1,.int .i64 n2,v2]:=by
  rw[List.append_assoc,List.take_append,List.take_of_length_le (by omega),Nat.add_sub_cancel_left];rfl
 have b:(pre++Qb1 n1 v1 n2 v2 h++post).drop (pre.length+4+5)=post:=by
  rw[List.append_assoc,List.drop_append,List.drop_eq_nil_of_le (by omega),show pre.length+4+5-pre.length=9 by omega];rfl
 have c:((pre++Qb1 n1 v1 n2 v2 h++post).toArray.toList.take (pre.length+4)++[.int .i64 h'.number,.int .i64 h'.size,.string h'.root,.int .i64 h'.taken,.string h'.takenRoot]++(pre++Qb1 n1 v1 n2 v2 h++post).toArray.toList.drop (pre.length+4+5))=pre++Qb1 n1 v1 n2 v2 h'++post:=by
  show(pre++Qb1 n1 v1 n2 v2 h++post).take (pre.length+4)++[.int .i64 h'.number,.int .i64 h'.size,.string h'.root,.int .i64 h'.taken,.string h'.takenRoot]++(pre++Qb1 n1 v1 n2 v2 h++post).drop (pre.length+4+5)=_
  rw[a,b];simp[Qb1]
 exact congrArg List.toArray c.symm
theorem RowT.reads{B:Nat}{w:World}{v:Value}{ts:List ByteArray}(h:RowT B w v ts):∃ A c,v=.slice A ts.length c/\ts.length<=c/\Qav w w.heap.size sone 1 A ts:=by
 obtain⟨A,c,rfl,hc⟩:=Qae h
 exact⟨A,c,rfl,hc,Qbb.of_own h⟩
theorem RowT.readsR{B:Nat}{w:World}{v:Value}{s:List ByteArray}(h:RowT B w v s.reverse):∃ A c,v=.slice A s.length c/\Qav w w.heap.size sone 1 A s.reverse:=by
 obtain⟨A,c,e,_,hr⟩:=h.reads
 rw[List.length_reverse] at e
 exact⟨A,c,e,hr⟩
theorem Quc(wd:Int)(hwd:inR wd 1 32=true)(B g T o n1 n2:Nat)(pre post:List Value)(v1 v2:Value)(h:Qak)(s1 s2:List ByteArray)(A1:Option Addr)(c1:Nat)(l1:List ByteArray)(A2:Option Addr)(c2:Nat)(l2:List ByteArray)(w:World)
 (hp:pre.length=o) (hB:Blk w g T (pre++Qb1 n1 v1 n2 v2 h++post).toArray) (hT:T≠9) (hr1:RowT B w v1 s1.reverse) (hr2:RowT B w v2 s2.reverse) (hne:∀ x,v1.ownBlock=some x->v2.ownBlock≠some x) (hBw:B<=w.heap.size)
 (hs1:∀ x∈s1,WdT wd x) (hs2:∀ x∈s2,WdT wd x) (hn1:s1.length=pc n1) (hn2:s2.length=pc n2) (hm1:n1<=20000) (hm2:n2<=20000) (hl1:l1.length<=20000) (hl2:l2.length<=20000) (hnum:0<=h.number/\h.number<=100000)
 (hq1:SlF (fun b=>b≠g/\v1.ownBlock≠some b/\v2.ownBlock≠some b) sone 1 w A1 l1 c1) (hq2:SlF (fun b=>b≠g/\v1.ownBlock≠some b/\v2.ownBlock≠some b) sone 1 w A2 l2 c2) (hw1:∀ x∈l1,WdT wd x) (hw2:∀ x∈l2,WdT wd x) :
 Calls Tryz.prog 177 #[.pointer (some ⟨g,o,none⟩),.int .i64 wd,.slice A1 l1.length c1,.slice A2 l2.length c2] w fun e w'=>∃ m v1' v2',e=.returned (.int .i64 m)/\
  Blk w' g T (pre++Qb1 ((n1+l1.length:Nat):Int) v1' ((n2+l2.length:Nat):Int) v2' ⟨h.number+1,((n1+l1.length:Nat):Int),Qjr (ndB wd) (Qcg wd) (Qcj (ndB wd) n1 s1 l1),((n2+l2.length:Nat):Int),Qjr (ndB wd) (Qcg wd) (Qcj (ndB wd) n2 s2 l2)⟩++post).toArray/\
  RowT B w' v1' (Qcj (ndB wd) n1 s1 l1).reverse/\RowT B w' v2' (Qcj (ndB wd) n2 s2 l2).reverse/\Frm (fun b=>b=g\/v1.ownBlock=some b\/v2.ownBlock=some b) w w'/\Qhs v1 v1' w.heap.size/\Qhs v2 v2' w.heap.size/\(∀ x,v1'.ownBlock=some x->v2'.ownBlock≠some x):=by
 have C1:=hU (Qnq wd hwd B g T o n1 _ v1 s1 A1 c1 l1 w hB hT (by have:=Qge (post:=post) hp 0 (mid:=Qb1 n1 v1 n2 v2 h) (by simp[Qb1]);exact this) (Qge (post:=post) hp 1 (mid:=Qb1 n1 v1 n2 v2 h) (by simp[Qb1])) hr1 hBw hs1 hn1 (by omega) (by omega) (hq1.mono fun b hb=>⟨hb.1,hb.2.1⟩) hw1)
 have HR1:=hU hr1;have HR2:=hU hr2;have HQ2:=hU hq2.here;have HN:=hU hne
 have ap2:=hU (hr2.apart hB hT);have ap1:=hU (hr1.apart hB hT)
 have lt2:=hU hr2.lt;have lt1:=hU hr1.lt
 have L1:=hU (Qg6 (ndB wd) l1 n1 s1 hn1);have L2:=hU (Qg6 (ndB wd) l2 n2 s2 hn2)
 have W1:=hU (Qg7 (Qkh hwd) l1 n1 s1 hs1 hw1);have W2:=hU (Qg7 (Qkh hwd) l2 n2 s2 hs2 hw2)
 have S2:=hU hs2;have N2:=hU hn2;have Q2:=hU hw2
 have p1:=Qh9 (n1+l1.length);have p2:=Qh9 (n2+l2.length)
 have gb1:(Qcj (ndB wd) n1 s1 l1).length<=100000:=by rw[L1.out];omega
 have gb2:(Qcj (ndB wd) n2 s2 l2).length<=100000:=by rw[L2.out];omega
 have hgl:=hB.lt
 clear hB hr1 hr2 hne hs1 hs2 hn1 hn2 hq1 hq2 hw1 hw2 p1 p2
 obtain⟨G1,hG1⟩:∃ G1,G1=Qcj (ndB wd) n1 s1 l1:=⟨_,rfl⟩
 obtain⟨G2,hG2⟩:∃ G2,G2=Qcj (ndB wd) n2 s2 l2:=⟨_,rfl⟩
 rw[<-hG1] at C1 L1 W1 gb1
 rw[<-hG2] at L2 W2 gb2
 rw[<-hG1,<-hG2]
 have HG2:=hU hG2
 clear hG1 hG2
 obtain⟨r1,hr1⟩:∃ r1,r1=Qjr (ndB wd) (Qcg wd) G1:=⟨_,rfl⟩
 obtain⟨r2,hr2⟩:∃ r2,r2=Qjr (ndB wd) (Qcg wd) G2:=⟨_,rfl⟩
 rw[<-hr1,<-hr2]
 have Hr1:=hU hr1;have Hr2:=hU hr2
 clear hr1 hr2
 go_enter Tryz.func177,Tryz.ntmps177
 go_wp2_with fail
 refine C1.out.mono ?_
 rintro e w1 ⟨m1,v1',rfl,hB1,hR1,hF1,hM1⟩
 rw[show o=o+0 from rfl,Qp2 hp 0 (by simp[Qb1]),show o+0+1=o+1 from rfl,Qp2 hp 1 (by simp[Qb1])] at hB1
 replace hB1:Blk w1 g T (pre++Qb1 ((n1+l1.length:Nat):Int) v1' n2 v2 h++post).toArray:=hB1
 have hR2:RowT B w1 v2 s2.reverse:=hF1.own HR2.out (fun b hb hx=>by
  rcases hx with e|e
  · exact ap2.out b hb e
  · exact HN.out b e hb)
 have C2:=hU (Qnq wd hwd B g T (o+2) n2 _ v2 s2 A2 c2 l2 w1 hB1 hT (Qge (post:=post) hp 2 (by simp[Qb1])) (Qge (post:=post) hp 3 (by simp[Qb1])) hR2 (Nat.le_trans hBw hF1.size) S2.out N2.out (by omega) (by omega)
  ((HQ2.out.frm hF1 (fun b hb hx hy=>by
    rcases hy with e|e
    · exact hx.1.1 e
    · exact hx.1.2.1 e)).mono fun b hb=>⟨hb.1.1,hb.1.2.2⟩) Q2.out)
 rw[<-HG2.out] at C2
 have HB1:=hU hB1;have HRa:=hU hR1;have HF1:=hU hF1;have HM1:=hU hM1
 clear hB1 hR1 hR2 hF1 hM1 C1
 go_wp2_with fail
 refine C2.out.mono ?_
 rintro e w2 ⟨m2,v2',rfl,hB2,hR2,hF2,hM2⟩
 rw[Qp2 hp 2 (by simp[Qb1]),show o+2+1=o+3 from rfl,Qp2 hp 3 (by simp[Qb1])] at hB2
 replace hB2:Blk w2 g T (pre++Qb1 ((n1+l1.length:Nat):Int) v1' ((n2+l2.length:Nat):Int) v2' h++post).toArray:=hB2
 have hne2:∀ x,v1'.ownBlock=some x->v2.ownBlock≠some x:=fun x hx hy=>by
  rcases HM1.out x hx with h|h
  · exact HN.out x h hy
  · have:=(lt2.out x hy).2;omega
 have hR1:RowT B w2 v1' G1.reverse:=hF2.own HRa.out (fun b hb hx=>by
  rcases hx with e|e
  · exact(RowT.apart HRa.out HB1.out hT) b hb e
  · exact hne2 b hb e)
 have hF:Frm (fun b=>b=g\/v1.ownBlock=some b\/v2.ownBlock=some b) w w2:=(HF1.out.mono (fun b _ h=>h.imp id Or.inl)).next hF2 (fun y hy hx=>hx.imp id Or.inr)
 have hM2':Qhs v2 v2' w.heap.size:=fun x hx=>(hM2 x hx).imp id (fun h=>Nat.le_trans HF1.out.size h)
 have hne3:∀ x,v1'.ownBlock=some x->v2'.ownBlock≠some x:=fun x hx hy=>by
  rcases hM2 x hy with h|h
  · exact hne2 x hx h
  · have:=(HRa.out.lt x hx).2;omega
 have HB2:=hU hB2;have HRx:=hU hR1;have HRy:=hU hR2;have HF:=hU hF;have HM2:=hU hM2';have HN3:=hU hne3
 clear HB1 HRa HF1 hB2 hR1 hR2 hF2 hM2 hF hM2' hne2 hne3 C2
 obtain⟨Aa,ca,rfl,rd1⟩:=HRx.out.readsR
 obtain⟨Ab,cb,rfl,rd2⟩:=HRy.out.readsR
 have RD1:=hU rd1;have RD2:=hU rd2
 clear rd1 rd2
 obtain⟨hc,hf⟩:=HB2.out.rules
 have x0:w2.cell? ⟨g,o,none⟩=some (.int .i64 ((n1+l1.length:Nat):Int)):=(hc (o+0)).trans (Qge hp 0 (by simp[Qb1]))
 have x1:w2.cell? ⟨g,o+1,none⟩=some (.slice Aa G1.length ca):=(hc (o+1)).trans (Qge hp 1 (by simp[Qb1]))
 have x2:w2.cell? ⟨g,o+2,none⟩=some (.int .i64 ((n2+l2.length:Nat):Int)):=(hc (o+2)).trans (Qge hp 2 (by simp[Qb1]))
 have x3:w2.cell? ⟨g,o+3,none⟩=some (.slice Ab G2.length cb):=(hc (o+3)).trans (Qge hp 3 (by simp[Qb1]))
 have R1:=hU (Qt5 wd hwd ((n1+l1.length:Nat):Int) Aa ca G1.reverse w2 (by simpa using gb1) RD1.out (fun x hx=>W1.out x (by simpa using hx)))
 rw[List.reverse_reverse,List.length_reverse,<-Hr1.out] at R1
 clear hc
 obtain⟨N1,hN1⟩:∃ N1,N1=n1+l1.length:=⟨_,rfl⟩
 obtain⟨N2,hN2⟩:∃ N2,N2=n2+l2.length:=⟨_,rfl⟩
 go_wp2_with fail
 refine R1.out.mono ?_
 rintro e w3 ⟨m3,rfl,h3⟩
 have y2:w3.cell? ⟨g,o+2,none⟩=some (.int .i64 ((n2+l2.length:Nat):Int)):=(h3.cell (p:=⟨g,o+2,none⟩) HB2.out.lt).trans x2
 have y3:w3.cell? ⟨g,o+3,none⟩=some (.slice Ab G2.length cb):=(h3.cell (p:=⟨g,o+3,none⟩) HB2.out.lt).trans x3
 have R2:=hU (Qt5 wd hwd ((n2+l2.length:Nat):Int) Ab cb G2.reverse w3 (by simpa using gb2) (RD2.out.ext h3) (fun x hx=>W2.out x (by simpa using hx)))
 rw[List.reverse_reverse,List.length_reverse,<-Hr2.out] at R2
 replace HB2:=hU (HB2.out.ext h3);replace HRx:=hU (HRx.out.ext h3);replace HRy:=hU (HRy.out.ext h3);replace HF:=hU (HF.out.ext h3)
 clear h3 x0 x1 x2 x3 hf RD1 RD2
 go_wp2_with fail
 refine R2.out.mono ?_
 rintro e w4 ⟨m4,rfl,h4⟩
 replace HB2:=hU (HB2.out.ext h4);replace HRx:=hU (HRx.out.ext h4);replace HRy:=hU (HRy.out.ext h4);replace HF:=hU (HF.out.ext h4)
 clear h4 y2 y3
 obtain⟨hc,hf⟩:=HB2.out.rules
 have x0:w4.cell? ⟨g,o,none⟩=some (.int .i64 ((n1+l1.length:Nat):Int)):=(hc (o+0)).trans (Qge hp 0 (by simp[Qb1]))
 have x2:w4.cell? ⟨g,o+2,none⟩=some (.int .i64 ((n2+l2.length:Nat):Int)):=(hc (o+2)).trans (Qge hp 2 (by simp[Qb1]))
 have x4:w4.cell? ⟨g,o+4,none⟩=some (.int .i64 h.number):=(hc (o+4)).trans (Qge hp 4 (by simp[Qb1]))
 clear hc
 have f4:w4.frozen? ⟨g,o+4,none⟩=false:=hf _
 obtain⟨N1,hN1⟩:∃ N1:Int,N1=((n1+l1.length:Nat):Int):=⟨_,rfl⟩
 obtain⟨N2,hN2⟩:∃ N2:Int,N2=((n2+l2.length:Nat):Int):=⟨_,rfl⟩
 have HN1:=hU hN1;have HN2:=hU hN2
 rw[<-hN1] at x0 HB2
 rw[<-hN2] at x2 HB2
 clear hN1 hN2 R1 R2 hf
 have hwr:IntKind.i64.wrap (h.number+1)=h.number+1:=IntWalk.i64_in _ (by omega)
 go_wp2_with fail
 go_still_tail 22,(by kernel_rfl)
 change wpList _ _ _ _ _ w4.drew
 generalize hd4:w4.drew=w6
 replace HB2:Hid (Blk w6 g T (pre++Qb1 N1 (.slice Aa G1.length ca) N2 (.slice Ab G2.length cb) h++post).toArray):=hU (by rw[<-hd4];exact HB2.out)
 replace HRx:Hid (RowT B w6 (.slice Aa G1.length ca) G1.reverse):=hU (by rw[<-hd4];exact HRx.out)
 replace HRy:Hid (RowT B w6 (.slice Ab G2.length cb) G2.reverse):=hU (by rw[<-hd4];exact HRy.out)
 replace HF:Hid (Frm (fun b=>b=g\/v1.ownBlock=some b\/v2.ownBlock=some b) w w6):=hU (by rw[<-hd4];exact HF.out.drew)
 have T4:=hU (HB2.out.there (o+4) 5 (by simp[Qb1];omega))
 clear hd4 x0 x2 x4 f4
 obtain⟨w5,hw5,hz,hx⟩:∃ w5,w5=w6.setCells g (o+4) [.int .i64 (h.number+1),.int .i64 N1,.string r1,.int .i64 N2,.string r2]/\
  Blk w5 g T (pre++Qb1 N1 (.slice Aa G1.length ca) N2 (.slice Ab G2.length cb) ⟨h.number+1,N1,r1,N2,r2⟩++post).toArray/\Frm (fun b=>b=g\/v1.ownBlock=some b\/v2.ownBlock=some b) w w5:=
  ⟨_,rfl,put_mid (h':=⟨h.number+1,N1,r1,N2,r2⟩) HB2.out hp,HF.out.setCells (g:=g) (fun _=>Or.inl rfl) _ _⟩
 have hk5:Frm (fun b=>b=g) w6 w5:=by rw[hw5];exact Frm.setCells (X:=fun b=>b=g) (Frm.refl _ w6) (g:=g) (fun _=>rfl) _ _
 have ra5:RowT B w5 (.slice Aa G1.length ca) G1.reverse:=hk5.own HRx.out (fun b hb=>(RowT.apart HRx.out HB2.out hT) b hb)
 have rb5:RowT B w5 (.slice Ab G2.length cb) G2.reverse:=hk5.own HRy.out (fun b hb=>(RowT.apart HRy.out HB2.out hT) b hb)
 have HW:=hU hw5;have HZ:=hU hz;have HX:=hU hx;have RA5:=hU ra5;have RB5:=hU rb5
 clear hw5 hz hx hk5 ra5 rb5 HRx HRy HF
 go_wp2_with (first|(refine Qac rfl 33 _ _ rfl rfl g (o+4) [.int .i64 (h.number+1),.int .i64 N1,.string r1,.int .i64 N2,.string r2] rfl rfl T4.out (by kernel_rfl) (by rfl) ?_;rw[<-HW.out]))
 go_ret
 exact⟨_,_,_,rfl,by rw[<-HN1.out,<-HN2.out];exact HZ.out,RA5.out,RB5.out,HX.out,HM1.out,HM2.out,HN3.out⟩
theorem Qvk{n:Int}{a b:Qak}(h:decide (b.number<=a.number)=true):Qcc n a b=false:=by
 have:=of_decide_eq_true h
 rw[Qcc,decide_eq_false (show ¬ a.number<b.number by omega)];simp
theorem Qvi{n:Int}{a b:Qak}(h:decide (b.size<a.size)=true):Qcc n a b=false:=by
 have:=of_decide_eq_true h
 rw[Qcc,decide_eq_false (show ¬ a.size<=b.size by omega)];simp
theorem Qvh{n:Int}{a b:Qak}(h:decide (b.taken<a.taken)=true):Qcc n a b=false:=by
 have:=of_decide_eq_true h
 rw[Qcc,decide_eq_false (show ¬ a.taken<=b.taken by omega)];simp
theorem Qvj{n:Int}{a b:Qak}(b1:Qbc n a=true)(b2:Qbc n b=true)(h1:decide (b.number<=a.number)=false)(h2:decide (b.size<a.size)=false)(h3:decide (b.taken<a.taken)=false):Qcc n a b=!Ql0 a b:=by
 have:=of_decide_eq_false h1
 have:=of_decide_eq_false h2
 have:=of_decide_eq_false h3
 rw[Qcc,b1,b2,decide_eq_true (show a.number<b.number by omega),decide_eq_true (show a.size<=b.size by omega),decide_eq_true (show a.taken<=b.taken by omega)];simp
theorem Qnn(n:Int)(a b:Qak)(w:World):Calls Tryz.prog 194 #[.int .i64 n,.agg #[.int .i64 a.number,.int .i64 a.size,.string a.root,.int .i64 a.taken,.string a.takenRoot],.agg #[.int .i64 b.number,.int .i64 b.size,.string b.root,.int .i64 b.taken,.string b.takenRoot]] w fun e w'=>e=.returned (.bool (Qcc n a b))/\Ext w w':=by
 obtain⟨B0,B1,he⟩:=Qfc w #[.int .i64 a.number,.int .i64 a.size,.string a.root,.int .i64 a.taken,.string a.takenRoot] #[.int .i64 b.number,.int .i64 b.size,.string b.root,.int .i64 b.taken,.string b.takenRoot] 33 33
 have K0:=hU B0;have K1:=hU B1;have He:=hU he
 obtain⟨r0,m0⟩:=B0.rules
 obtain⟨r1,m1⟩:=B1.rules
 clear B0 B1 he
 obtain⟨fin,hfin⟩:∃ fin,fin=Qcc n a b:=⟨_,rfl⟩
 rw[<-hfin]
 cases b1:Qbc n a
 · have E:=hU (show fin=false by rw[hfin];simp[Qcc,b1])
   clear hfin
   go_enter Tryz.func194,Tryz.ntmps194
   go_wp2_with fail
   obtain⟨g,hg⟩:∃ g,g=w.heap.size:=⟨_,rfl⟩
   rw[<-hg] at K0 K1
   rw[<-hg]
   clear hg r0 m0 r1 m1
   have C0:=K0.out;have C1:=K1.out;have he:=He.out
   clear K0 K1 He
   refine(Qbf n a _).mono ?_
   rintro e w1 ⟨rfl,h1⟩
   replace C0:=C0.ext h1;replace C1:=C1.ext h1;replace he:=he.next h1;clear h1
   obtain⟨r0,m0⟩:=C0.rules
   obtain⟨r1,m1⟩:=C1.rules
   go_wp2_with fail
   go_ret
   exact⟨Qam E.out.symm,he⟩
 cases b2:Qbc n b
 · have E:=hU (show fin=false by rw[hfin];simp[Qcc,b2])
   clear hfin
   go_enter Tryz.func194,Tryz.ntmps194
   go_wp2_with fail
   obtain⟨g,hg⟩:∃ g,g=w.heap.size:=⟨_,rfl⟩
   rw[<-hg] at K0 K1
   rw[<-hg]
   clear hg r0 m0 r1 m1
   have C0:=K0.out;have C1:=K1.out;have he:=He.out
   clear K0 K1 He
   refine(Qbf n a _).mono ?_
   rintro e w2 ⟨rfl,h1⟩
   replace C0:=C0.ext h1;replace C1:=C1.ext h1;replace he:=he.next h1;clear h1
   obtain⟨r0,m0⟩:=C0.rules
   obtain⟨r1,m1⟩:=C1.rules
   go_wp2_with fail
   refine(Qbf n b _).mono ?_
   rintro e w3 ⟨rfl,h1⟩
   replace C0:=C0.ext h1;replace C1:=C1.ext h1;replace he:=he.next h1;clear h1
   clear r0 m0 r1 m1
   obtain⟨r0,m0⟩:=C0.rules
   obtain⟨r1,m1⟩:=C1.rules
   go_wp2_with fail
   go_ret
   exact⟨Qam E.out.symm,he⟩
 cases d1:decide (b.number<=a.number)
 case true=>
  have E:=hU (show fin=false by rw[hfin];exact Qvk d1)
  clear hfin
  go_enter Tryz.func194,Tryz.ntmps194
  go_wp2_with fail
  obtain⟨g,hg⟩:∃ g,g=w.heap.size:=⟨_,rfl⟩
  rw[<-hg] at K0 K1
  rw[<-hg]
  clear hg r0 m0 r1 m1
  have C0:=K0.out;have C1:=K1.out;have he:=He.out
  clear K0 K1 He
  refine(Qbf n a _).mono ?_
  rintro e w4 ⟨rfl,h1⟩
  replace C0:=C0.ext h1;replace C1:=C1.ext h1;replace he:=he.next h1;clear h1
  obtain⟨r0,m0⟩:=C0.rules
  obtain⟨r1,m1⟩:=C1.rules
  go_wp2_with fail
  refine(Qbf n b _).mono ?_
  rintro e w5 ⟨rfl,h1⟩
  replace C0:=C0.ext h1;replace C1:=C1.ext h1;replace he:=he.next h1;clear h1
  clear r0 m0 r1 m1
  obtain⟨r0,m0⟩:=C0.rules
  obtain⟨r1,m1⟩:=C1.rules
  go_wp2_with fail
  go_ret
  exact⟨Qam E.out.symm,he⟩
 cases d2:decide (b.size<a.size)
 case true=>
  have E:=hU (show fin=false by rw[hfin];exact Qvi d2)
  clear hfin
  go_enter Tryz.func194,Tryz.ntmps194
  go_wp2_with fail
  obtain⟨g,hg⟩:∃ g,g=w.heap.size:=⟨_,rfl⟩
  rw[<-hg] at K0 K1
  rw[<-hg]
  clear hg r0 m0 r1 m1
  have C0:=K0.out;have C1:=K1.out;have he:=He.out
  clear K0 K1 He
  refine(Qbf n a _).mono ?_
  rintro e w6 ⟨rfl,h1⟩
  replace C0:=C0.ext h1;replace C1:=C1.ext h1;replace he:=he.next h1;clear h1
  obtain⟨r0,m0⟩:=C0.rules
  obtain⟨r1,m1⟩:=C1.rules
  go_wp2_with fail
  refine(Qbf n b _).mono ?_
  rintro e w7 ⟨rfl,h1⟩
  replace C0:=C0.ext h1;replace C1:=C1.ext h1;replace he:=he.next h1;clear h1
  clear r0 m0 r1 m1
  obtain⟨r0,m0⟩:=C0.rules
  obtain⟨r1,m1⟩:=C1.rules
  go_wp2_with fail
  go_ret
  exact⟨Qam E.out.symm,he⟩
 cases d3:decide (b.taken<a.taken)
 case true=>
  have E:=hU (show fin=false by rw[hfin];exact Qvh d3)
  clear hfin
  go_enter Tryz.func194,Tryz.ntmps194
  go_wp2_with fail
  obtain⟨g,hg⟩:∃ g,g=w.heap.size:=⟨_,rfl⟩
  rw[<-hg] at K0 K1
  rw[<-hg]
  clear hg r0 m0 r1 m1
  have C0:=K0.out;have C1:=K1.out;have he:=He.out
  clear K0 K1 He
  refine(Qbf n a _).mono ?_
  rintro e w8 ⟨rfl,h1⟩
  replace C0:=C0.ext h1;replace C1:=C1.ext h1;replace he:=he.next h1;clear h1
  obtain⟨r0,m0⟩:=C0.rules
  obtain⟨r1,m1⟩:=C1.rules
  go_wp2_with fail
  refine(Qbf n b _).mono ?_
  rintro e w9 ⟨rfl,h1⟩
  replace C0:=C0.ext h1;replace C1:=C1.ext h1;replace he:=he.next h1;clear h1
  clear r0 m0 r1 m1
  obtain⟨r0,m0⟩:=C0.rules
  obtain⟨r1,m1⟩:=C1.rules
  go_wp2_with fail
  go_ret
  exact⟨Qam E.out.symm,he⟩
 have E:=hU (show fin=!Ql0 a b by rw[hfin];exact Qvj b1 b2 d1 d2 d3)
 clear hfin
 go_enter Tryz.func194,Tryz.ntmps194
 go_wp2_with fail
 obtain⟨g,hg⟩:∃ g,g=w.heap.size:=⟨_,rfl⟩
 rw[<-hg] at K0 K1
 rw[<-hg]
 clear hg r0 m0 r1 m1
 have C0:=K0.out;have C1:=K1.out;have he:=He.out
 clear K0 K1 He
 refine(Qbf n a _).mono ?_
 rintro e w10 ⟨rfl,h1⟩
 replace C0:=C0.ext h1;replace C1:=C1.ext h1;replace he:=he.next h1;clear h1
 obtain⟨r0,m0⟩:=C0.rules
 obtain⟨r1,m1⟩:=C1.rules
 go_wp2_with fail
 refine(Qbf n b _).mono ?_
 rintro e w11 ⟨rfl,h1⟩
 replace C0:=C0.ext h1;replace C1:=C1.ext h1;replace he:=he.next h1;clear h1
 clear r0 m0 r1 m1
 obtain⟨r0,m0⟩:=C0.rules
 obtain⟨r1,m1⟩:=C1.rules
 go_wp2_with fail
 refine(Qu3 a b _).mono ?_
 rintro e w12 ⟨rfl,h1⟩
 replace C0:=C0.ext h1;replace C1:=C1.ext h1;replace he:=he.next h1;clear h1
 clear r0 m0 r1 m1
 obtain⟨r0,m0⟩:=C0.rules
 obtain⟨r1,m1⟩:=C1.rules
 go_wp2_with fail
 go_ret
 exact⟨Qam E.out.symm,he⟩
theorem Qbz{w:World}{b off c:Nat}{l:List Qak}(hr:SlF AnyB Qak.cells 5 w (some ⟨b,off,none⟩) l c){k:Nat}{d:Qak}(hd:l[k]?=some d) :
 w.cell? ⟨b,off+k*5,none⟩=some (.int .i64 d.number)/\w.cell? ⟨b,off+k*5+1,none⟩=some (.int .i64 d.size)/\w.cell? ⟨b,off+k*5+2,none⟩=some (.string d.root)/\w.cell? ⟨b,off+k*5+3,none⟩=some (.int .i64 d.taken)/\w.cell? ⟨b,off+k*5+4,none⟩=some (.string d.takenRoot):=by
 obtain⟨b',off',e,hb,hc⟩:=Qbb.at_ hr.reads (k:=k) (List.getElem?_eq_some_iff.1 hd).1
 cases e
 exact⟨hc 0 _ (Qa9 _ 5 Qak.cells_length l k 0 d hd (by omega)),hc 1 _ (Qa9 _ 5 Qak.cells_length l k 1 d hd (by omega)),hc 2 _ (Qa9 _ 5 Qak.cells_length l k 2 d hd (by omega)),hc 3 _ (Qa9 _ 5 Qak.cells_length l k 3 d hd (by omega)),hc 4 _ (Qa9 _ 5 Qak.cells_length l k 4 d hd (by omega))⟩
theorem Qtc{n:Int}{l:List Qak}{k:Nat}{d:Qak}(hd:l[k]?=some d)(h0:k=0):Qeh n l k=(Qbc n d&&(d.number==(k:Int))):=by
 subst h0;rw[Qeh,hd];simp
theorem Qtd{n:Int}{l:List Qak}{k j:Nat}{d e:Qak}(hd:l[k]?=some d)(hj:k=j+1)(he:l[j]?=some e):Qeh n l k=(Qbc n d&&(d.number==(k:Int))&&Qcc n e d):=by
 subst hj;rw[Qeh,hd];simp[he]
theorem Qpp{n:Int}{l:List Qak}{k:Nat}{d:Qak}(hd:l[k]?=some d)(h:(Qbc n d&&(d.number==(k:Int)))=false):Qeh n l k=false:=by
 rw[Qeh,hd];simp only;rw[h,Bool.false_and]
end Go.Proofs.YtbnkjgcpjeedfaaGreat

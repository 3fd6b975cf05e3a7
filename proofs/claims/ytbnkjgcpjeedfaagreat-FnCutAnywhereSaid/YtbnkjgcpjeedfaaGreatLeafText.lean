/-
  Logs; LeafText: No condition.
-/
import Derived.Test.YtbnkjgcpjeedfaaGreatRowTx
import Derived.Test.YtbnkjgcpjeedfaaGreatLeaf
import Derived.Test.YtbnkjgcpjeedfaaGreatBunch
import Derived.Test.YtbnkjgcpjeedfaaGreatRets
namespace Go.Proofs.YtbnkjgcpjeedfaaGreat
set_option maxHeartbeats 2000000
set_option maxRecDepth 100000
set_option linter.unusedSimpArgs false
open Go.RowKit
set_option linter.unusedVariables false
def Qgv (t:ByteArray) (e:Qaf):Bool:=e.topic.toList==t.toList
def cntT (l:List Qaf) (t:ByteArray):Nat:=l.countP (Qgv t)
theorem Qlt(l:List Qaf)(t:ByteArray):cntT l t<=l.length:=List.countP_le_length
theorem Qn5{l:List Qaf}{t:ByteArray}{k:Nat}{d:Qaf}(hd:l[k]?=some d):cntT (l.take (k+1)) t=cntT (l.take k) t+if Qgv t d then 1 else 0:=by
 obtain⟨hk,rfl⟩:=List.getElem?_eq_some_iff.1 hd
 rw[List.take_succ_eq_append_getElem hk]
 simp only[cntT,List.countP_append,List.countP_singleton]
theorem Qdt{l:List Qaf}{w:World}{b off:Nat}{k:Nat}{d:Qaf}(hc:∀ j u,(l.flatMap Qaf.cells)[k*5+j]?=some u->w.cell? ⟨b,off+k*5+j,none⟩=some u)(hd:l[k]?=some d) :
 w.cell? ⟨b,off+k*5,none⟩=some (.string d.topic)/\w.cell? ⟨b,off+k*5+1,none⟩=some (.int .i64 d.index)/\w.cell? ⟨b,off+k*5+2,none⟩=some (.int .i64 d.time)/\w.cell? ⟨b,off+k*5+3,none⟩=some (.string d.key)/\w.cell? ⟨b,off+k*5+4,none⟩=some (.string d.body):=
 ⟨hc 0 _ (Qa9 _ 5 Qaf.cells_length l k 0 d hd (by omega)),hc 1 _ (Qa9 _ 5 Qaf.cells_length l k 1 d hd (by omega)),hc 2 _ (Qa9 _ 5 Qaf.cells_length l k 2 d hd (by omega)),hc 3 _ (Qa9 _ 5 Qaf.cells_length l k 3 d hd (by omega)),hc 4 _ (Qa9 _ 5 Qaf.cells_length l k 4 d hd (by omega))⟩
theorem Qru(A:Option Addr)(c:Nat)(l:List Qaf)(t:ByteArray)(w:World)(hr:Qav w w.heap.size Qaf.cells 5 A l)(hl:l.length<=1048576) :
 Calls Tryz.prog 229 #[.slice A l.length c,.string t] w fun e w'=>e=.returned (.int .i64 (cntT l t:Int))/\w=w':=by
 go_enter Tryz.func229,Tryz.ntmps229
 go_wp2_with fail
 go_loopw [5,6] (fun n i wr=>∃(k:Nat),k<=l.length/\i=.int .i64 k/\n=.int .i64 (cntT (l.take k) t:Int)/\w=wr) (fun _ i _=>l.length-(intOf i).toNat)
 case atStart=>exact⟨0,Nat.zero_le _,rfl,rfl,rfl⟩
 case round=>
  obtain⟨k,hk,rfl,rfl,rfl⟩:=hrel
  by_cases hlt:k<l.length
  case neg=>
   obtain rfl:k=l.length:=by omega
   have d1:decide ((l.length:Int)<(l.length:Int))=false:=by simp
   have E:=hU (show cntT (l.take l.length) t=cntT l t by rw[List.take_length])
   go_wp2_with fail
   go_ret
   exact⟨by rw[E.out];rfl,rfl⟩
  have d1:decide ((k:Int)<(l.length:Int))=true:=by rw[decide_eq_true_eq];omega
  obtain⟨b,off,rfl,hb,hc⟩:=Qbb.at_ hr (k:=k) hlt
  obtain⟨d,hd⟩:∃ d,d=l[k]:=⟨_,rfl⟩
  have hdl:l[k]?=some d:=by rw[hd];exact List.getElem?_eq_getElem hlt
  obtain⟨c0,_⟩:=Qdt hc hdl
  have Hn:=hU (Qn5 (t:=t) hdl)
  have hcl:=Qlt (l.take k) t
  rw[List.length_take] at hcl
  have hcl2:cntT (l.take k) t<=1048576:=by omega
  clear hc hd hdl hcl
  cases b1:(d.topic.toList==t.toList)
  · have E:=hU (show cntT (l.take (k+1)) t=cntT (l.take k) t by rw[Hn.out,Qgv,b1];rfl)
    go_wp2_with fail
    go_roundw
    case rel=>exact⟨k+1,by omega,by go_num,by rw[E.out],trivial⟩
    case measure=>simp[intOf];omega
  · have E:=hU (show cntT (l.take (k+1)) t=cntT (l.take k) t+1 by rw[Hn.out,Qgv,b1];rfl)
    go_wp2_with fail
    go_roundw
    case rel=>exact⟨k+1,by omega,by go_num,by rw[E.out];go_num,trivial⟩
    case measure=>simp[intOf];omega
def Qla (l:List Qaf) (e:Qaf):Qaf:={ e with index:=(cntT l e.topic:Int) }
theorem Qvc(A:Option Addr)(c:Nat)(l:List Qaf)(d:Qaf)(w:World)(hr:SlF AnyB Qaf.cells 5 w A l c)(hl:l.length<512)(hd:d.Ok)(hz:d.index=0)(hn:Qcn d.topic=true)(ho:Qbk d=true) :
 Calls Tryz.prog 168 #[.agg #[.slice A l.length c],.string d.topic,.int .i64 d.time,.string d.key,.string d.body] w fun e w'=>∃ v,e=.returned (.tuple #[.agg #[v],.int .i64 (l.length:Int),.int .i64 0])/\OwnF Qaf.cells 5 40 w w' v (l++[Qla l d])/\Ext w w':=by
 obtain⟨topic,index,time,key,body⟩:=d
 obtain rfl:index=0:=hz
 simp only at hn ho hd ⊢
 obtain⟨i0,hi,hz0,hz1,hz2⟩:=info_parts Qlq
 go_enter Tryz.func168,Tryz.ntmps168
 have HR:=hU hr;clear hr
 have HD:=hU hd
 obtain⟨z1,_,_,z2,z3⟩:=hd
 simp only at z1 z2 z3
 have he:=hU (Ext.new (Ext.new (Below.refl w.heap.size w) (.cells #[.slice A l.length c] 26)) (.cells #[.slice none 0 0] 26))
 have K0:=hU ((Blk.new w 26 #[.slice A l.length c]).alloc (.cells #[.slice none 0 0] 26))
 have k1:=Blk.new (w.alloc (.cells #[.slice A l.length c] 26)) 26 #[.slice none 0 0]
 rw[World.size_alloc] at k1
 have K1:=hU k1;clear k1
 have d5:decide ((l.length:Int)=512)=false:=by rw[decide_eq_false_iff_not];omega
 go_wp2_with fail
 obtain⟨g,hg⟩:∃ g,g=w.heap.size:=⟨_,rfl⟩
 rw[<-hg] at K0 K1
 rw[<-hg]
 have hg0:w.heap.size<=g:=by omega
 clear hg
 generalize (w.alloc (.cells #[.slice A l.length c] 26)).alloc (.cells #[.slice none 0 0] 26)=w0 at *
 refine(Qcf topic _ z1).mono ?_
 rintro e w1 ⟨rfl,rfl⟩
 rw[hn]
 go_wp2_with fail
 refine(Qeo ⟨topic,0,time,key,body⟩ _ HD.out).mono ?_
 rintro e w2 ⟨rfl,h1⟩
 rw[ho]
 replace he:=hU (he.out.next h1);have k0:=K0.out.ext h1;replace K0:=hU k0;replace K1:=hU (K1.out.ext h1)
 clear h1
 obtain⟨c0,f0⟩:=k0.rules
 go_wp2_with fail
 refine(Qru A c l topic _ (HR.out.ext he.out).reads (by omega)).mono ?_
 rintro e w3 ⟨rfl,rfl⟩
 clear c0 f0
 go_wp2_with fail
 have hk1:=K1.out.lt
 have b0:=Blk.new w2 40 #[.string topic,.int .i64 (cntT l topic:Int),.int .i64 time,.string key,.string body]
 replace he:=hU (he.out.new (.cells #[.string topic,.int .i64 (cntT l topic:Int),.int .i64 time,.string key,.string body] 40))
 replace K0:=hU (K0.out.alloc (.cells #[.string topic,.int .i64 (cntT l topic:Int),.int .i64 time,.string key,.string body] 40))
 replace K1:=hU (K1.out.alloc (.cells #[.string topic,.int .i64 (cntT l topic:Int),.int .i64 time,.string key,.string body] 40))
 obtain⟨q,hq⟩:∃ q,q=w2.heap.size:=⟨_,rfl⟩
 rw[<-hq] at b0 hk1
 rw[<-hq]
 have hgq:g+1<q:=hk1
 clear hq k0
 generalize w2.alloc (.cells #[.string topic,.int .i64 (cntT l topic:Int),.int .i64 time,.string key,.string body] 40)=w3 at *
 have hq3:g+1<w3.heap.size:=Nat.lt_trans hgq b0.lt
 have B0:=hU b0;clear b0
 have F:=hU (show ∀ w',Qft 26 1 (g+1) w3 w'->w'.cell? ⟨g,0,none⟩=some (.slice A l.length c)/\(w'.cell? ⟨q,0,none⟩=some (.string topic)/\w'.cell? ⟨q,1,none⟩=some (.int .i64 (cntT l topic:Int))/\w'.cell? ⟨q,2,none⟩=some (.int .i64 time)/\w'.cell? ⟨q,3,none⟩=some (.string key)/\w'.cell? ⟨q,4,none⟩=some (.string body)) from fun w' h'=>
  have h:=h'.1
  ⟨(K0.out.extBut h (by omega)).cell 0,(B0.out.extBut h (by omega)).cell 0,(B0.out.extBut h (by omega)).cell 1,(B0.out.extBut h (by omega)).cell 2,(B0.out.extBut h (by omega)).cell 3,(B0.out.extBut h (by omega)).cell 4⟩)
 refine wp_region_held_drew (S:=fun w'=>Qft 26 1 (g+1) w3 w') (by kernel_rfl) (Qft.start K1.out rfl) (fun hHeld=>?_)
 refine Qbg (i:=1) (oi:=_) (v:=?v1) (some 41) rfl rfl (by kernel_rfl) (by kernel_rfl) (by kernel_rfl) (fun _ a b _ e h=>by cases a;cases b;cases e;exact h) (Or.inl ⟨by rfl,?y1⟩) hHeld ?r1
 case y1=>intro w' hS';obtain⟨f0,f1⟩:=F.out w' hS';go_simp;try with_reducible rfl
 (try simp only[Act.put,List.setIfInBounds_toArray,List.set_cons_zero,List.set_cons_succ])
 refine Qbg (i:=8) (oi:=_) (v:=?v2) (some 48) rfl rfl (by kernel_rfl) (by kernel_rfl) (by kernel_rfl) (fun _ a b _ e h=>by cases a;cases b;cases e;exact h) (Or.inl ⟨by rfl,?y2⟩) hHeld ?r2
 case y2=>intro w' hS';obtain⟨f0,f1⟩:=F.out w' hS';go_simp;try with_reducible rfl
 (try simp only[Act.put,List.setIfInBounds_toArray,List.set_cons_zero,List.set_cons_succ])
 refine Qbg (i:=2) (oi:=_) (v:=?v3) (some 42) rfl rfl (by kernel_rfl) (by kernel_rfl) (by kernel_rfl) (fun _ a b _ e h=>by cases a;cases b;cases e;exact h) (Or.inl ⟨by rfl,?y3⟩) hHeld ?r3
 case y3=>intro w' hS';obtain⟨f0,f1⟩:=F.out w' hS';go_simp;try with_reducible rfl
 (try simp only[Act.put,List.setIfInBounds_toArray,List.set_cons_zero,List.set_cons_succ])
 refine Qbg (i:=4) (oi:=_) (v:=?v4) (some 44) rfl rfl (by kernel_rfl) (by kernel_rfl) (by kernel_rfl) (fun _ a b _ e h=>by cases a;cases b;cases e;exact h) (Or.inl ⟨by rfl,?y4⟩) hHeld ?r4
 case y4=>intro w' hS';obtain⟨f0,f1⟩:=F.out w' hS';go_simp;try with_reducible rfl
 (try simp only[Act.put,List.setIfInBounds_toArray,List.set_cons_zero,List.set_cons_succ])
 refine Qbg (i:=9) (oi:=_) (v:=?v5) (some 49) rfl rfl (by kernel_rfl) (by kernel_rfl) (by kernel_rfl) (fun _ a b _ e h=>by cases a;cases b;cases e;exact h) (Or.inl ⟨by rfl,?y5⟩) hHeld ?r5
 case y5=>intro w' hS';obtain⟨f0,f1⟩:=F.out w' hS';go_simp;try with_reducible rfl
 (try simp only[Act.put,List.setIfInBounds_toArray,List.set_cons_zero,List.set_cons_succ])
 refine Qbg (i:=10) (oi:=_) (v:=?v6) (some 50) rfl rfl (by kernel_rfl) (by kernel_rfl) (by kernel_rfl) (fun _ a b _ e h=>by cases a;cases b;cases e;exact h) (Or.inl ⟨by rfl,?y6⟩) hHeld ?r6
 case y6=>intro w' hS';obtain⟨f0,f1⟩:=F.out w' hS';go_simp;try with_reducible rfl
 (try simp only[Act.put,List.setIfInBounds_toArray,List.set_cons_zero,List.set_cons_succ])
 refine Qlw [(0,some 40),(3,some 43),(5,some 45)] (fun i v w'=>match i with
  | 0=>∃ K,v=.slice (some ⟨K,0,none⟩) 0 0/\Blk w' K 40 #[]/\w3.heap.size<=K
  | 3=>w'.ownsRow w3.heap.size 40 5 v l.length (l.flatMap Qaf.cells)
  | 5=>∃ K,v=.slice (some ⟨K,0,none⟩) 1 1/\Blk w' K 40 #[.string topic,.int .i64 (cntT l topic:Int),.int .i64 time,.string key,.string body]
  | _=>True) _ (fun w1 w2=>Ext w1 w2) (n:=5) (by kernel_rfl) (by rfl) (fun _ a b _ e h=>by cases a;cases b;cases e;exact h) ?hR hHeld ?hst ?hend
 case hR=>
  intro j v u1 u2 hu hp
  match j,hp with
  | 0,⟨K,e,h1,h2⟩=>exact⟨K,e,h1.ext hu,h2⟩
  | 3,h1=>exact Qag h1 hu
  | 5,⟨K,e,h1⟩=>exact⟨K,e,h1.ext hu⟩
  | 1,_=>trivial
  | 2,_=>trivial
  | 4,_=>trivial
  | n+6,_=>trivial
 case hst=>
  refine Qbo.cons [] (o:=_) rfl rfl rfl (by kernel_rfl) (fun vals u hv hS K' hK=>?_) (Qbo.cons [0] (o:=_) rfl rfl rfl (by kernel_rfl) (fun vals u hv hS K' hK=>?_) (Qbo.cons [] (o:=_) rfl rfl rfl (by kernel_rfl) (fun vals u hv hS K' hK=>?_) Qbo.nil))
  · refine⟨?_⟩
    (try simp only[Qa7,Act.put,List.setIfInBounds_toArray,List.set_cons_zero,List.set_cons_succ])
    go_simp
    exact hK.out _ _ ⟨_,rfl,u.heap.size,rfl,Blk.new _ _ _,hS.1.size⟩ (hS.ext (Ext.new (Below.refl _ _) _)) (Ext.new (Below.refl _ _) _)
  · obtain⟨⟨K,hv0,hb0,hk0⟩,_⟩:=hv
    refine⟨?_⟩;(try simp only[Qa7,Act.put,List.setIfInBounds_toArray,List.set_cons_zero,List.set_cons_succ])
    rw[if_pos (by rfl)]
    refine Qdh (some 43) _ _ 24 (by rfl) (by rfl) w3.heap.size K 40 i0 (.agg #[.string ⟨#[]⟩,.int .i64 0,.int .i64 0,.string ⟨#[]⟩,.string ⟨#[]⟩]) 5 64 Tryz.underlying24 hi hz0 hz1 hz2 rfl (by decide) (by exact hv0) hb0 hk0 (.slice A l.length c) l.length (l.flatMap Qaf.cells) (by rfl) (Qbb.src (Qbb.below HR.out.reads (Below.trans he.out (Qaz.lower hS.1 (by omega) he.out.size)))) (Qn0 l) ?_ ?_ (fun v' u2 ho hx=>?_)
    · unfold maxLen;omega
    · omega
    exact hK.out _ _ ⟨_,rfl,ho⟩ (hS.ext hx) hx
  · refine⟨?_⟩
    (try simp only[Qa7,Act.put,List.setIfInBounds_toArray,List.set_cons_zero,List.set_cons_succ])
    go_simp
    exact hK.out _ _ ⟨_,rfl,u.heap.size,rfl,Blk.new _ _ _⟩ (hS.ext (Ext.new (Below.refl _ _) _)) (Ext.new (Below.refl _ _) _)
 intro vals w4 hv hx
 obtain⟨⟨K0',hv0,_,_⟩,hv3,⟨K5,hv5,hb5⟩,_⟩:=hv
 (try simp only[Qa7,Act.put,List.setIfInBounds_toArray,List.set_cons_zero,List.set_cons_succ])
 have O3:=hU (show w4.ownsRow w3.heap.size 40 5 (vals 3) l.length (l.flatMap Qaf.cells) from hv3)
 rw[hv0,hv5]
 clear hv0 hv5 hv3
 generalize vals 3=v3 at *
 refine oneH 6 (oi:=_) (some 46) (by kernel_rfl) rfl rfl rfl (fun K' hK=>?_)
 refine⟨?_⟩;rw[if_pos (by rfl)]
 refine Qpx (some 46) _ _ 24 (by rfl) (by rfl) w3.heap.size 40 i0 (.agg #[.string ⟨#[]⟩,.int .i64 0,.int .i64 0,.string ⟨#[]⟩,.string ⟨#[]⟩]) 5 64 Tryz.underlying24 hi hz0 hz1 hz2 rfl (by decide) v3 l.length (l.flatMap Qaf.cells) (by rfl) O3.out (.slice (some ⟨K5,0,none⟩) 1 1) 1 [.string topic,.int .i64 (cntT l topic:Int),.int .i64 time,.string key,.string body] (by rfl) (Blk.src hb5 1 5 1 rfl) (Qn0 [⟨topic,(cntT l topic:Int),time,key,body⟩]) ?_ ?_ ?_ (fun v' u2 ho hgr=>?_)
 · unfold maxLen;omega
 · omega
 · exact hx.1.size
 obtain⟨A',c',rfl,_⟩:=Qae ho
 refine hK.out _ _ ⟨_,rfl⟩ (hx.grown hq3 (Nat.le_refl _) O3.out hgr) (fun hx2=>?_)
 clear hK K' hx hb5 O3 hHeld
 (try simp only[Act.put,List.setIfInBounds_toArray,List.set_cons_zero,List.set_cons_succ])
 have O4:=hU ho;clear ho hgr
 refine Qbg (i:=7) (oi:=_) (v:=.agg #[.slice A' (l.length+1) c']) (some 47) rfl rfl (by kernel_rfl) (by kernel_rfl) (by kernel_rfl) (fun _ a b _ e h=>by cases a;cases b;cases e;exact h) (Or.inl ⟨by rfl,?y7⟩) hx2 ?r7
 case y7=>intro w' hS';go_simp;try with_reducible rfl
 (try simp only[Act.put,List.setIfInBounds_toArray,List.set_cons_zero,List.set_cons_succ])
 refine oneH 11 (oi:=_) none (by kernel_rfl) rfl rfl rfl (fun K' hK=>?_)
 refine⟨?_⟩;rw[if_pos (by rfl)]
 refine Qdn 26 _ _ (by rfl) (by rfl) (g+1) 0 [.slice A' (l.length+1) c'] (by rfl) (by rfl) hx2.there (by kernel_rfl) (by simp;rfl) ?_
 obtain⟨hx3,b3⟩:=hx2.put [.slice A' (l.length+1) c'] rfl
 have B3:=hU b3;clear b3
 refine hK.out _ _ ⟨undef,rfl⟩ hx3 (fun hx4=>?_)
 clear hK K' hx2
 refine Qbg (i:=12) (oi:=_) (v:=.int .i64 (l.length:Int)) (some 11) rfl rfl (by kernel_rfl) (by kernel_rfl) (by kernel_rfl) (fun _ a b _ e h=>by cases a;cases b;cases e;exact h) (Or.inl ⟨by rfl,?y12⟩) hx4 ?r12
 case y12=>intro w' hS';go_simp;try with_reducible rfl
 (try simp only[Act.put,List.setIfInBounds_toArray,List.set_cons_zero,List.set_cons_succ])
 refine Qbg (i:=13) (oi:=_) (v:=.int .i64 0) (some 12) rfl rfl (by kernel_rfl) (by kernel_rfl) (by kernel_rfl) (fun _ a b _ e h=>by cases a;cases b;cases e;exact h) (Or.inl ⟨by rfl,?y13⟩) hx4 ?r13
 case y13=>intro w' hS';go_simp;try with_reducible rfl
 (try simp only[Act.put,List.setIfInBounds_toArray,List.set_cons_zero,List.set_cons_succ])
 refine wpAnyH_done (by kernel_rfl) ?_ _
 go_wp2_with fail
 refine Qh5 (s0:=10) (s1:=11) (s2:=12) (t0:=26) rfl rfl B3.out Tryz.underlying26 rfl (by kernel_rfl) rfl ?_
 refine⟨_,rfl,?_,?_⟩
 · have h1:=Qaj (Qjs O4.out (Qc4 (g+1) [.slice A' (l.length+1) c'] 0 u2 u2 (World.grownBy.refl _ _)) hq3) (B':=w.heap.size) he.out.size
   unfold OwnF Qla
   rw[List.length_append,List.flatMap_append]
   exact h1
 · exact Below.trans he.out (Qaz.lower hx4.1 (by omega) he.out.size)
theorem Qd0{d:Qaf}(h:Qbk d=true):d.topic.size<=20/\0<=d.index/\d.index<=511/\0<=d.time/\d.time<=1000000000/\d.key.size<=40/\d.body.size<=400:=by
 simp only[Qbk,Qef,Bool.and_eq_true,decide_eq_true_eq] at h
 obtain⟨⟨h1,h2⟩,⟨h3,h4⟩,h5⟩:=h
 have h6:=Qb7 h1
 have h7:=Qa0 h2
 have h8:=Qa0 h3
 omega
theorem Qgr(d:Qaf)(w:World)(hd:d.Ok):Calls Tryz.prog 68 #[.agg #[.string d.topic,.int .i64 d.index,.int .i64 d.time,.string d.key,.string d.body]] w fun e w'=>e=.returned (.tuple #[.string (Qa3 d),.bool (Qbk d)])/\Ext w w':=by
 cases b:Qbk d
 · have Ht:=hU (show Qa3 d=⟨#[]⟩ by simp[Qa3,b])
   go_enter Tryz.func68,Tryz.ntmps68
   go_wp2_with fail
   have he:=Ext.new (Below.refl w.heap.size w) (.cells #[.string d.topic,.int .i64 d.index,.int .i64 d.time,.string d.key,.string d.body] 40)
   refine(Qfa d _ hd).mono ?_
   rintro e w1 ⟨rfl,h1⟩
   replace he:=he.next h1
   go_wp2_with fail
   go_ret2
   exact⟨by rw[Ht.out];rfl,he⟩
 · have Ht:=hU (show Qa3 d=Qva d by simp[Qa3,b])
   obtain⟨z1,z2,z3,z4,z5,z6,z7⟩:=Qd0 b
   have y1:(octB (d.topic.size:Int)).size<=1:=Nat.le_refl _
   have y2:(octB (d.key.size:Int)).size<=1:=Nat.le_refl _
   have y3:(octB (d.index / 256)).size<=1:=Nat.le_refl _
   have y4:(octB d.index).size<=1:=Nat.le_refl _
   have y5:(lowB d.time.toNat 4).size<=4:=by rw[Qby];exact Nat.le_refl _
   have y6:(octB ((d.body.size:Int) / 256)).size<=1:=Nat.le_refl _
   have y7:(octB (d.body.size:Int)).size<=1:=Nat.le_refl _
   have n1:¬ 9223372036854775807<1+((octB (d.topic.size:Int)).size+d.topic.size):=by omega
   have n2:¬ 9223372036854775807<1+((octB (d.topic.size:Int)).size+d.topic.size)+((octB (d.index / 256)).size+(octB d.index).size):=by omega
   have n3:¬ 9223372036854775807<1+((octB (d.topic.size:Int)).size+d.topic.size)+((octB (d.index / 256)).size+(octB d.index).size)+(lowB d.time.toNat 4).size:=by omega
   have ht:IntKind.u32.wrap d.time=d.time:=IntWalk.u32_in _ (by omega)
   go_enter Tryz.func68,Tryz.ntmps68
   go_wp2_with fail
   have hB:=Blk.new w 40 #[.string d.topic,.int .i64 d.index,.int .i64 d.time,.string d.key,.string d.body]
   have he:=Ext.new (Below.refl w.heap.size w) (.cells #[.string d.topic,.int .i64 d.index,.int .i64 d.time,.string d.key,.string d.body] 40)
   refine(Qfa d _ hd).mono ?_
   rintro e w1 ⟨rfl,h1⟩
   replace he:=he.next h1;replace hB:=hB.ext h1;clear h1
   obtain⟨g,hg⟩:∃ g,g=w.heap.size:=⟨_,rfl⟩
   rw[<-hg] at hB
   rw[<-hg]
   clear hg
   have c0:w1.cell? ⟨g,0,none⟩=some (.string d.topic):=hB.cell 0
   have c1:w1.cell? ⟨g,1,none⟩=some (.int .i64 d.index):=hB.cell 1
   have c2:w1.cell? ⟨g,2,none⟩=some (.int .i64 d.time):=hB.cell 2
   go_wp2_with fail
   go_region_held3 (fun w'=>w'.cell? ⟨g,0,none⟩=some (.string d.topic)/\w'.cell? ⟨g,1,none⟩=some (.int .i64 d.index)/\w'.cell? ⟨g,2,none⟩=some (.int .i64 d.time)/\Blk w' g 40 #[.string d.topic,.int .i64 d.index,.int .i64 d.time,.string d.key,.string d.body]/\Ext w w')
    (first
     | exact⟨c0,c1,c2,hB.drew,he.drew⟩
     | (go_split_ands;refine⟨?_,?_,?_,?_,?_⟩ <;> assumption)
     | (go_split_ands;have hB':=Blk.ext (by assumption) h1;exact⟨hB'.cell 0,hB'.cell 1,hB'.cell 2,hB',Ext.next (by assumption) h1⟩))
    (first
     | (go_at_call 131;refine(Qis _ _ (by omega)).mono ?_;rintro e w' ⟨rfl,h1⟩)
     | (go_at_call 132;refine(Qhi _ _ (by omega) (by omega)).mono ?_;rintro e w' ⟨rfl,h1⟩)
     | (go_at_call 133;refine(Qq0 _ _ (by omega) (by omega)).mono ?_;rintro e w' ⟨rfl,h1⟩))
   clear c0 c1 c2 hB he ht n1 n2 n3
   rename_i hh
   obtain⟨_,_,_,hB,he⟩:=hh
   have hs:(⟨#[69]⟩++(octB d.topic.size++d.topic)++(octB (d.index / 256)++octB d.index)++lowB d.time.toNat 4:ByteArray).size<=30:=by
    simp only[ByteArray.size_append]
    show 1+_+_+_<=30
    omega
   obtain⟨H,hH⟩:∃ H,H=(⟨#[69]⟩++(octB d.topic.size++d.topic)++(octB (d.index / 256)++octB d.index)++lowB d.time.toNat 4:ByteArray):=⟨_,rfl⟩
   rw[<-hH] at hs ⊢
   have HH:=hU hH
   clear hH
   have m1:¬ 9223372036854775807<H.size+((octB (d.key.size:Int)).size+d.key.size):=by omega
   have m2:¬ 9223372036854775807<H.size+((octB (d.key.size:Int)).size+d.key.size)+((octB ((d.body.size:Int) / 256)).size+(octB (d.body.size:Int)).size):=by omega
   have m3:¬ 9223372036854775807<H.size+((octB (d.key.size:Int)).size+d.key.size)+((octB ((d.body.size:Int) / 256)).size+(octB (d.body.size:Int)).size)+d.body.size:=by omega
   have c3:w'.cell? ⟨g,3,none⟩=some (.string d.key):=hB.cell 3
   have c4:w'.cell? ⟨g,4,none⟩=some (.string d.body):=hB.cell 4
   go_wp2_with fail
   go_region_held3 (fun w'=>w'.cell? ⟨g,3,none⟩=some (.string d.key)/\w'.cell? ⟨g,4,none⟩=some (.string d.body)/\Blk w' g 40 #[.string d.topic,.int .i64 d.index,.int .i64 d.time,.string d.key,.string d.body]/\Ext w w')
    (first
     | exact⟨c3,c4,hB.drew,he.drew⟩
     | (go_split_ands;refine⟨?_,?_,?_,?_⟩ <;> assumption)
     | (go_split_ands;have hB':=Blk.ext (by assumption) h1;exact⟨hB'.cell 3,hB'.cell 4,hB',Ext.next (by assumption) h1⟩))
    (first
     | (go_at_call 131;refine(Qis _ _ (by omega)).mono ?_;rintro e w' ⟨rfl,h1⟩)
     | (go_at_call 132;refine(Qhi _ _ (by omega) (by omega)).mono ?_;rintro e w' ⟨rfl,h1⟩))
   all_goals
    go_wp2_with fail
    go_ret2
    refine⟨by rw[Ht.out,HH.out];rfl,?_⟩
    go_split_ands
    assumption
theorem Qd4(d:Qaf)(w:World)(hd:d.Ok):Calls Tryz.prog 26 #[.agg #[.string d.topic,.int .i64 d.index,.int .i64 d.time,.string d.key,.string d.body]] w fun e w'=>e=.returned (.tuple #[.string (Qa3 d),.bool (Qbk d)])/\Ext w w':=by
 cases b:Qbk d
 · have Ht:=hU (show Qa3 d=⟨#[]⟩ by simp[Qa3,b])
   go_enter Tryz.func26,Tryz.ntmps26
   go_wp2_with fail
   have he:=Ext.new (Below.refl w.heap.size w) (.cells #[.string d.topic,.int .i64 d.index,.int .i64 d.time,.string d.key,.string d.body] 40)
   refine(Qeo d _ hd).mono ?_
   rintro e w1 ⟨rfl,h1⟩
   replace he:=he.next h1
   go_wp2_with fail
   go_ret2
   exact⟨by rw[Ht.out];rfl,he⟩
 · obtain⟨z1,z2,z3,z4,z5,z6,z7⟩:=Qd0 b
   have Ht:Hid (Qa3 d=⟨#[69]⟩++(lowB d.topic.size 1++d.topic)++lowB d.index.toNat 2++lowB d.time.toNat 4++(lowB d.key.size 1++d.key)++lowB d.body.size 2++d.body):=by
    rw[Qkj,Qkj,Qi2,Qi2,Int.toNat_of_nonneg z2]
    exact hU (by simp[Qa3,b,Qva])
   have y1:(lowB d.topic.size 1).size<=1:=by rw[Qby];exact Nat.le_refl _
   have y2:(lowB d.key.size 1).size<=1:=by rw[Qby];exact Nat.le_refl _
   have y3:(lowB d.index.toNat 2).size<=2:=by rw[Qby];exact Nat.le_refl _
   have y4:(lowB d.time.toNat 4).size<=4:=by rw[Qby];exact Nat.le_refl _
   have y5:(lowB d.body.size 2).size<=2:=by rw[Qby];exact Nat.le_refl _
   have n1:¬ 9223372036854775807<1+((lowB d.topic.size 1).size+d.topic.size):=by omega
   have n2:¬ 9223372036854775807<1+((lowB d.topic.size 1).size+d.topic.size)+(lowB d.index.toNat 2).size:=by omega
   have n3:¬ 9223372036854775807<1+((lowB d.topic.size 1).size+d.topic.size)+(lowB d.index.toNat 2).size+(lowB d.time.toNat 4).size:=by omega
   have n4:¬ 9223372036854775807<1+((lowB d.topic.size 1).size+d.topic.size)+(lowB d.index.toNat 2).size+(lowB d.time.toNat 4).size+((lowB d.key.size 1).size+d.key.size):=by omega
   have n5:¬ 9223372036854775807<1+((lowB d.topic.size 1).size+d.topic.size)+(lowB d.index.toNat 2).size+(lowB d.time.toNat 4).size+((lowB d.key.size 1).size+d.key.size)+(lowB d.body.size 2).size:=by omega
   have n6:¬ 9223372036854775807<1+((lowB d.topic.size 1).size+d.topic.size)+(lowB d.index.toNat 2).size+(lowB d.time.toNat 4).size+((lowB d.key.size 1).size+d.key.size)+(lowB d.body.size 2).size+d.body.size:=by omega
   go_enter Tryz.func26,Tryz.ntmps26
   go_wp2_with fail
   have hB:=Blk.new w 40 #[.string d.topic,.int .i64 d.index,.int .i64 d.time,.string d.key,.string d.body]
   have he:=Ext.new (Below.refl w.heap.size w) (.cells #[.string d.topic,.int .i64 d.index,.int .i64 d.time,.string d.key,.string d.body] 40)
   refine(Qeo d _ hd).mono ?_
   rintro e w1 ⟨rfl,h1⟩
   replace he:=he.next h1;replace hB:=hB.ext h1;clear h1
   obtain⟨g,hg⟩:∃ g,g=w.heap.size:=⟨_,rfl⟩
   rw[<-hg] at hB
   rw[<-hg]
   clear hg
   have c0:w1.cell? ⟨g,0,none⟩=some (.string d.topic):=hB.cell 0
   have c1:w1.cell? ⟨g,1,none⟩=some (.int .i64 d.index):=hB.cell 1
   have c2:w1.cell? ⟨g,2,none⟩=some (.int .i64 d.time):=hB.cell 2
   have c3:w1.cell? ⟨g,3,none⟩=some (.string d.key):=hB.cell 3
   have c4:w1.cell? ⟨g,4,none⟩=some (.string d.body):=hB.cell 4
   go_wp2_with fail
   go_region_held3 (fun w'=>w'.cell? ⟨g,0,none⟩=some (.string d.topic)/\w'.cell? ⟨g,1,none⟩=some (.int .i64 d.index)/\w'.cell? ⟨g,2,none⟩=some (.int .i64 d.time)/\w'.cell? ⟨g,3,none⟩=some (.string d.key)/\w'.cell? ⟨g,4,none⟩=some (.string d.body)/\Blk w' g 40 #[.string d.topic,.int .i64 d.index,.int .i64 d.time,.string d.key,.string d.body]/\Ext w w')
    (first
     | exact⟨c0,c1,c2,c3,c4,hB.drew,he.drew⟩
     | (go_split_ands;refine⟨?_,?_,?_,?_,?_,?_,?_⟩ <;> assumption)
     | (go_split_ands;have hB':=Blk.ext (by assumption) h1;exact⟨hB'.cell 0,hB'.cell 1,hB'.cell 2,hB'.cell 3,hB'.cell 4,hB',Ext.next (by assumption) h1⟩))
    (first
     | (go_at_call 84;refine(Qid _ _ (by omega)).mono ?_;rintro e w' ⟨rfl,h1⟩)
     | (go_at_call_of 85 (Value.int .i64 d.index);refine(Qfd _ 2 _ (by omega) (by omega) (by decide)).mono ?_;rintro e w' ⟨rfl,h1⟩)
     | (go_at_call_of 85 (Value.int .i64 d.time);refine(Qfd _ 4 _ (by omega) (by omega) (by decide)).mono ?_;rintro e w' ⟨rfl,h1⟩)
     | (go_at_call_of 85 (Value.int .i64 (d.body.size:Int));refine(Qfy _ 2 _ (by omega) (by decide)).mono ?_;rintro e w' ⟨rfl,h1⟩))
   all_goals
    go_wp2_with fail
    go_ret2
    refine⟨by rw[Ht.out];rfl,?_⟩
    go_split_ands
    assumption
end Go.Proofs.YtbnkjgcpjeedfaaGreat

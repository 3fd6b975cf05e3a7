/-
  Hashes; SameB; Reopen0: No condition.
-/
import Derived.Test.YtbnkjgcpjeedfaaGreatBrkV
import Derived.Test.YtbnkjgcpjeedfaaGreatRowTx
import Derived.Test.YtbnkjgcpjeedfaaGreatDisk0
import Derived.Test.YtbnkjgcpjeedfaaGreatBunch
import Derived.BigQuiet
import Derived.Test.YtbnkjgcpjeedfaaGreatReadLf
namespace Go.Proofs.YtbnkjgcpjeedfaaGreat
set_option maxHeartbeats 2000000
set_option maxRecDepth 100000
set_option linter.unusedSimpArgs false
open Go.RowKit
set_option linter.unusedVariables false
theorem Qly{l:List Qab}{w:World}{b off:Nat}{k:Nat}{d:Qab}(hc:∀ j u,(l.flatMap Qab.cells)[k*3+j]?=some u->w.cell? ⟨b,off+k*3+j,none⟩=some u)(hd:l[k]?=some d) :
 w.cell? ⟨b,off+k*3,none⟩=some (.string d.reader)/\w.cell? ⟨b,off+k*3+1,none⟩=some (.string d.topic)/\w.cell? ⟨b,off+k*3+2,none⟩=some (.int .i64 d.index):=
 ⟨hc 0 _ (Qa9 _ 3 Qab.cells_length l k 0 d hd (by omega)),hc 1 _ (Qa9 _ 3 Qab.cells_length l k 1 d hd (by omega)),hc 2 _ (Qa9 _ 3 Qab.cells_length l k 2 d hd (by omega))⟩
theorem Ql3(n:Int)(A:Option Addr)(c:Nat)(l:List Qaf)(w:World)(hr:SlF AnyB Qaf.cells 5 w A l c)(hok:∀ d∈l,d.Ok)(hl:l.length<=1048576) :
 Calls Tryz.prog 118 #[.int .i64 n,.agg #[.slice A l.length c]] w fun e w'=>∃ v,e=.returned v/\w'.ownsRow w.heap.size 9 1 v l.length ((l.map (Qgk n)).flatMap sone)/\Ext w w':=by
 obtain⟨i0,hi,hz0,hz1,hz2⟩:=info_parts Qd8
 have HR:=hU hr
 have Hok:=hU hok
 have He:=hU (Ext.new (Below.refl w.heap.size w) (.cells #[.slice A l.length c] 26))
 clear hr hok
 go_enter Tryz.func118,Tryz.ntmps118
 go_wp2_with fail
 go_loopw [5,13] (fun v i wr=>∃ k:Nat,k<=l.length/\i=.int .i64 k/\wr.ownsRow w.heap.size 9 1 v k (((l.take k).map (Qgk n)).flatMap sone)/\Ext w wr) (fun _ i _=>l.length-(intOf i).toNat)
 case atStart=>exact⟨0,Nat.zero_le _,rfl,World.ownsRow_nil _ _ _ _,He.out⟩
 case round=>
  clear He
  obtain⟨k,hk,rfl,hown,he⟩:=hrel
  obtain⟨V,cv,rfl,hnc⟩:=Qae hown
  have KO:=hU hown;clear hown
  by_cases hlt:k<l.length
  case neg=>
   obtain rfl:k=l.length:=by omega
   go_wp2_with fail
   go_ret
   exact⟨_,rfl,by have:=KO.out;rwa [List.take_length] at this,he⟩
  obtain⟨b,off,rfl,hb,hc⟩:=Qbb.at_ (HR.out.ext he).reads (k:=k) hlt
  obtain⟨d,hd⟩:∃ d,d=l[k]:=⟨_,rfl⟩
  have hdl:l[k]?=some d:=by rw[hd];exact List.getElem?_eq_getElem hlt
  have hdo:=Hok.out d (List.mem_of_getElem? hdl)
  obtain⟨c0,c1,c2,c3,c4⟩:=Qdt hc hdl
  have HDO:=hU hdo;have Hdl:=hU hdl
  clear hc hd hdl hdo
  go_wp2_with fail
  refine(Qmh n d _ HDO.out).mono ?_
  rintro e w1 ⟨rfl,h1⟩
  have h2:Ext wr w1:=by first|exact h1|exact Ext.next (Ext.new (Below.refl wr.heap.size wr) _) h1
  replace he:=he.next h2;replace KO:=hU (Qag KO.out h2)
  clear h1 h2 c0 c1 c2 c3 c4
  have hw1:=he.size
  obtain⟨x,hx⟩:∃ x,x=Qgk n d:=⟨_,rfl⟩
  rw[<-hx]
  have HX:=hU hx;clear hx
  go_wp2_with (at_builtin;refine Qap _ rfl _ _ 29 rfl w.heap.size 9 i0 _ 1 16 Tryz.underlying29 hi hz0 hz1 hz2 rfl (by decide) _ _ _ rfl (KO.out.alloc _) ⟨w1.heap.size,0,none⟩ 1 1 [.string x] rfl rfl ?c1 ?c2 ?c3 ?c4 ?c5 ?_)
  case c1=>exact(Blk.new w1 9 #[.string x]).adds
  case c2=>intro u hu;simp at hu;subst hu;rfl
  case c3=>unfold maxLen;omega
  case c4=>omega
  case c5=>simp;omega
  intro v' w2 hown' hfrm hmv
  have L0:=hU KO.out.lt
  have he2:Ext w w2:=hfrm.toExt (he.new _) (fun y hy e=>by have:=(L0.out _ e).1;omega)
  obtain⟨hkl,hkd⟩:=List.getElem?_eq_some_iff.1 Hdl.out
  have e2:((l.take k).map (Qgk n)).flatMap sone++[.string x]=((l.take (k+1)).map (Qgk n)).flatMap sone:=by rw[List.take_succ_eq_append_getElem hkl,hkd,HX.out];simp[sone]
  have O2:=hU (show w2.ownsRow w.heap.size 9 1 v' (k+1) (((l.take (k+1)).map (Qgk n)).flatMap sone) by rw[<-e2,List.map_take];exact hown')
  clear hown' hfrm hmv L0 hkd e2 KO he
  go_wp2_with fail
  go_roundw
  case rel=>exact⟨k+1,by omega,by go_num,O2.out,he2⟩
  case measure=>simp[intOf];omega
theorem Qql(n:Int)(A:Option Addr)(c:Nat)(l:List Qaf)(w:World)(hr:SlF AnyB Qaf.cells 5 w A l c)(hok:∀ d∈l,d.Ok)(hl:l.length<=1048576) :
 Calls Tryz.prog 161 #[.int .i64 n,.slice A l.length c] w fun e w'=>∃ v,e=.returned v/\w'.ownsRow w.heap.size 9 1 v l.length ((l.map (Qgk n)).flatMap sone)/\Ext w w':=by
 obtain⟨i0,hi,hz0,hz1,hz2⟩:=info_parts Qd8
 have HR:=hU hr
 have Hok:=hU hok
 have He:=hU (Ext.new (Below.refl w.heap.size w) (.cells #[] 9))
 have OE:=hU (Qbd w 9 1)
 clear hr hok
 go_enter Tryz.func161,Tryz.ntmps161
 go_wp2_with fail
 go_loopw [5,6] (fun v i wr=>∃ k:Nat,k<=l.length/\i=.int .i64 k/\wr.ownsRow w.heap.size 9 1 v k (((l.take k).map (Qgk n)).flatMap sone)/\Ext w wr) (fun _ i _=>l.length-(intOf i).toNat)
 case atStart=>exact⟨0,Nat.zero_le _,rfl,OE.out,He.out⟩
 case round=>
  clear He
  obtain⟨k,hk,rfl,hown,he⟩:=hrel
  obtain⟨V,cv,rfl,hnc⟩:=Qae hown
  have KO:=hU hown;clear hown
  by_cases hlt:k<l.length
  case neg=>
   obtain rfl:k=l.length:=by omega
   go_wp2_with fail
   go_ret
   exact⟨_,rfl,by have:=KO.out;rwa [List.take_length] at this,he⟩
  obtain⟨b,off,rfl,hb,hc⟩:=Qbb.at_ (HR.out.ext he).reads (k:=k) hlt
  obtain⟨d,hd⟩:∃ d,d=l[k]:=⟨_,rfl⟩
  have hdl:l[k]?=some d:=by rw[hd];exact List.getElem?_eq_getElem hlt
  have hdo:=Hok.out d (List.mem_of_getElem? hdl)
  obtain⟨c0,c1,c2,c3,c4⟩:=Qdt hc hdl
  have HDO:=hU hdo;have Hdl:=hU hdl
  clear hc hd hdl hdo
  go_wp2_with fail
  refine(Qma n d _ HDO.out).mono ?_
  rintro e w1 ⟨rfl,h1⟩
  have h2:Ext wr w1:=by first|exact h1|exact Ext.next (Ext.new (Below.refl wr.heap.size wr) _) h1
  replace he:=he.next h2;replace KO:=hU (Qag KO.out h2)
  clear h1 h2 c0 c1 c2 c3 c4
  have hw1:=he.size
  obtain⟨x,hx⟩:∃ x,x=Qgk n d:=⟨_,rfl⟩
  rw[<-hx]
  have HX:=hU hx;clear hx
  go_wp2_with (at_builtin;refine Qap _ rfl _ _ 29 rfl w.heap.size 9 i0 _ 1 16 Tryz.underlying29 hi hz0 hz1 hz2 rfl (by decide) _ _ _ rfl (KO.out.alloc _) ⟨w1.heap.size,0,none⟩ 1 1 [.string x] rfl rfl ?c1 ?c2 ?c3 ?c4 ?c5 ?_)
  case c1=>exact(Blk.new w1 9 #[.string x]).adds
  case c2=>intro u hu;simp at hu;subst hu;rfl
  case c3=>unfold maxLen;omega
  case c4=>omega
  case c5=>simp;omega
  intro v' w2 hown' hfrm hmv
  have L0:=hU KO.out.lt
  have he2:Ext w w2:=hfrm.toExt (he.new _) (fun y hy e=>by have:=(L0.out _ e).1;omega)
  obtain⟨hkl,hkd⟩:=List.getElem?_eq_some_iff.1 Hdl.out
  have e2:((l.take k).map (Qgk n)).flatMap sone++[.string x]=((l.take (k+1)).map (Qgk n)).flatMap sone:=by rw[List.take_succ_eq_append_getElem hkl,hkd,HX.out];simp[sone]
  have O2:=hU (show w2.ownsRow w.heap.size 9 1 v' (k+1) (((l.take (k+1)).map (Qgk n)).flatMap sone) by rw[<-e2,List.map_take];exact hown')
  clear hown' hfrm hmv L0 hkd e2 KO he
  go_wp2_with fail
  go_roundw
  case rel=>exact⟨k+1,by omega,by go_num,O2.out,he2⟩
  case measure=>simp[intOf];omega
theorem Qg2(n:Int)(A:Option Addr)(c:Nat)(l:List Qab)(w:World)(hr:SlF AnyB Qab.cells 3 w A l c)(hok:∀ d∈l,d.Ok)(hl:l.length<=1048576) :
 Calls Tryz.prog 119 #[.int .i64 n,.slice A l.length c] w fun e w'=>∃ v,e=.returned v/\w'.ownsRow w.heap.size 9 1 v l.length ((l.map (recH n)).flatMap sone)/\Ext w w':=by
 obtain⟨i0,hi,hz0,hz1,hz2⟩:=info_parts Qd8
 have HR:=hU hr
 have Hok:=hU hok
 have He:=hU (Below.refl w.heap.size w)
 clear hr hok
 go_enter Tryz.func119,Tryz.ntmps119
 go_wp2_with fail
 go_loopw [5,12] (fun v i wr=>∃ k:Nat,k<=l.length/\i=.int .i64 k/\wr.ownsRow w.heap.size 9 1 v k (((l.take k).map (recH n)).flatMap sone)/\Ext w wr) (fun _ i _=>l.length-(intOf i).toNat)
 case atStart=>exact⟨0,Nat.zero_le _,rfl,World.ownsRow_nil _ _ _ _,He.out⟩
 case round=>
  clear He
  obtain⟨k,hk,rfl,hown,he⟩:=hrel
  obtain⟨V,cv,rfl,hnc⟩:=Qae hown
  have KO:=hU hown;clear hown
  by_cases hlt:k<l.length
  case neg=>
   obtain rfl:k=l.length:=by omega
   go_wp2_with fail
   go_ret
   exact⟨_,rfl,by have:=KO.out;rwa [List.take_length] at this,he⟩
  obtain⟨b,off,rfl,hb,hc⟩:=Qbb.at_ (HR.out.ext he).reads (k:=k) hlt
  obtain⟨d,hd⟩:∃ d,d=l[k]:=⟨_,rfl⟩
  have hdl:l[k]?=some d:=by rw[hd];exact List.getElem?_eq_getElem hlt
  have hdo:=Hok.out d (List.mem_of_getElem? hdl)
  obtain⟨c0,c1,c2⟩:=Qly hc hdl
  have HDO:=hU hdo;have Hdl:=hU hdl
  clear hc hd hdl hdo
  go_wp2_with fail
  refine(Qjw n d _ HDO.out).mono ?_
  rintro e w1 ⟨rfl,h1⟩
  have h2:Ext wr w1:=by first|exact h1|exact Ext.next (Ext.new (Below.refl wr.heap.size wr) _) h1
  replace he:=he.next h2;replace KO:=hU (Qag KO.out h2)
  clear h1 h2 c0 c1 c2
  have hw1:=he.size
  obtain⟨x,hx⟩:∃ x,x=recH n d:=⟨_,rfl⟩
  rw[<-hx]
  have HX:=hU hx;clear hx
  go_wp2_with (at_builtin;refine Qap _ rfl _ _ 29 rfl w.heap.size 9 i0 _ 1 16 Tryz.underlying29 hi hz0 hz1 hz2 rfl (by decide) _ _ _ rfl (KO.out.alloc _) ⟨w1.heap.size,0,none⟩ 1 1 [.string x] rfl rfl ?c1 ?c2 ?c3 ?c4 ?c5 ?_)
  case c1=>exact(Blk.new w1 9 #[.string x]).adds
  case c2=>intro u hu;simp at hu;subst hu;rfl
  case c3=>unfold maxLen;omega
  case c4=>omega
  case c5=>simp;omega
  intro v' w2 hown' hfrm hmv
  have L0:=hU KO.out.lt
  have he2:Ext w w2:=hfrm.toExt (he.new _) (fun y hy e=>by have:=(L0.out _ e).1;omega)
  obtain⟨hkl,hkd⟩:=List.getElem?_eq_some_iff.1 Hdl.out
  have e2:((l.take k).map (recH n)).flatMap sone++[.string x]=((l.take (k+1)).map (recH n)).flatMap sone:=by rw[List.take_succ_eq_append_getElem hkl,hkd,HX.out];simp[sone]
  have O2:=hU (show w2.ownsRow w.heap.size 9 1 v' (k+1) (((l.take (k+1)).map (recH n)).flatMap sone) by rw[<-e2,List.map_take];exact hown')
  clear hown' hfrm hmv L0 hkd e2 KO he
  go_wp2_with fail
  go_roundw
  case rel=>exact⟨k+1,by omega,by go_num,O2.out,he2⟩
  case measure=>simp[intOf];omega
theorem Qrs(n:Int)(A:Option Addr)(c:Nat)(l:List Qab)(w:World)(hr:SlF AnyB Qab.cells 3 w A l c)(hok:∀ d∈l,d.Ok)(hl:l.length<=1048576) :
 Calls Tryz.prog 162 #[.int .i64 n,.slice A l.length c] w fun e w'=>∃ v,e=.returned v/\w'.ownsRow w.heap.size 9 1 v l.length ((l.map (recH n)).flatMap sone)/\Ext w w':=by
 obtain⟨i0,hi,hz0,hz1,hz2⟩:=info_parts Qd8
 have HR:=hU hr
 have Hok:=hU hok
 have He:=hU (Ext.new (Below.refl w.heap.size w) (.cells #[] 9))
 have OE:=hU (Qbd w 9 1)
 clear hr hok
 go_enter Tryz.func162,Tryz.ntmps162
 go_wp2_with fail
 go_loopw [5,6] (fun v i wr=>∃ k:Nat,k<=l.length/\i=.int .i64 k/\wr.ownsRow w.heap.size 9 1 v k (((l.take k).map (recH n)).flatMap sone)/\Ext w wr) (fun _ i _=>l.length-(intOf i).toNat)
 case atStart=>exact⟨0,Nat.zero_le _,rfl,OE.out,He.out⟩
 case round=>
  clear He
  obtain⟨k,hk,rfl,hown,he⟩:=hrel
  obtain⟨V,cv,rfl,hnc⟩:=Qae hown
  have KO:=hU hown;clear hown
  by_cases hlt:k<l.length
  case neg=>
   obtain rfl:k=l.length:=by omega
   go_wp2_with fail
   go_ret
   exact⟨_,rfl,by have:=KO.out;rwa [List.take_length] at this,he⟩
  obtain⟨b,off,rfl,hb,hc⟩:=Qbb.at_ (HR.out.ext he).reads (k:=k) hlt
  obtain⟨d,hd⟩:∃ d,d=l[k]:=⟨_,rfl⟩
  have hdl:l[k]?=some d:=by rw[hd];exact List.getElem?_eq_getElem hlt
  have hdo:=Hok.out d (List.mem_of_getElem? hdl)
  obtain⟨c0,c1,c2⟩:=Qly hc hdl
  have HDO:=hU hdo;have Hdl:=hU hdl
  clear hc hd hdl hdo
  go_wp2_with fail
  refine(Qjo n d _ HDO.out).mono ?_
  rintro e w1 ⟨rfl,h1⟩
  have h2:Ext wr w1:=by first|exact h1|exact Ext.next (Ext.new (Below.refl wr.heap.size wr) _) h1
  replace he:=he.next h2;replace KO:=hU (Qag KO.out h2)
  clear h1 h2 c0 c1 c2
  have hw1:=he.size
  obtain⟨x,hx⟩:∃ x,x=recH n d:=⟨_,rfl⟩
  rw[<-hx]
  have HX:=hU hx;clear hx
  go_wp2_with (at_builtin;refine Qap _ rfl _ _ 29 rfl w.heap.size 9 i0 _ 1 16 Tryz.underlying29 hi hz0 hz1 hz2 rfl (by decide) _ _ _ rfl (KO.out.alloc _) ⟨w1.heap.size,0,none⟩ 1 1 [.string x] rfl rfl ?c1 ?c2 ?c3 ?c4 ?c5 ?_)
  case c1=>exact(Blk.new w1 9 #[.string x]).adds
  case c2=>intro u hu;simp at hu;subst hu;rfl
  case c3=>unfold maxLen;omega
  case c4=>omega
  case c5=>simp;omega
  intro v' w2 hown' hfrm hmv
  have L0:=hU KO.out.lt
  have he2:Ext w w2:=hfrm.toExt (he.new _) (fun y hy e=>by have:=(L0.out _ e).1;omega)
  obtain⟨hkl,hkd⟩:=List.getElem?_eq_some_iff.1 Hdl.out
  have e2:((l.take k).map (recH n)).flatMap sone++[.string x]=((l.take (k+1)).map (recH n)).flatMap sone:=by rw[List.take_succ_eq_append_getElem hkl,hkd,HX.out];simp[sone]
  have O2:=hU (show w2.ownsRow w.heap.size 9 1 v' (k+1) (((l.take (k+1)).map (recH n)).flatMap sone) by rw[<-e2,List.map_take];exact hown')
  clear hown' hfrm hmv L0 hkd e2 KO he
  go_wp2_with fail
  go_roundw
  case rel=>exact⟨k+1,by omega,by go_num,O2.out,he2⟩
  case measure=>simp[intOf];omega
theorem Qu1{a b:List ByteArray}(h:a.length≠b.length):Qh8 a b=false:=by
 cases e:Qh8 a b
 · rfl
 · exact absurd (congrArg List.length (Qiw.1 e)) h
theorem Qxg{a b:List ByteArray}{k:Nat}{x y:ByteArray}(ha:a[k]?=some x)(hb:b[k]?=some y)(h:(x.toList==y.toList)=false):Qh8 a b=false:=by
 cases e:Qh8 a b
 · rfl
 · have:=Qiw.1 e
   subst this
   rw[ha] at hb
   cases hb
   simp at h
theorem Qu2{a b:List ByteArray}(hl:a.length=b.length)(h:∀ k x y,k<a.length->a[k]?=some x->b[k]?=some y->(x.toList==y.toList)=true):Qh8 a b=true:=by
 rw[Qiw]
 apply List.ext_getElem hl
 intro k h1 h2
 have:=h k _ _ h1 (List.getElem?_eq_getElem h1) (List.getElem?_eq_getElem h2)
 exact Qfm.1 (by simpa using this)
theorem Qdo{w:World}{B:Nat}{A:Option Addr}{l:List ByteArray}(hr:Qav w B sone 1 A l){k:Nat}{x:ByteArray}(hx:l[k]?=some x):∃ b off,A=some ⟨b,off,none⟩/\b<B/\w.cell? ⟨b,off+k,none⟩=some (.string x):=by
 obtain⟨b,off,e,hb,hc⟩:=Qbb.at_ hr (k:=k) (List.getElem?_eq_some_iff.1 hx).1
 have:=hc 0 _ (Qa9 _ 1 Qbw l k 0 x hx (by omega))
 rw[Nat.add_zero,Nat.mul_one] at this
 exact⟨b,off,e,hb,this⟩
theorem Qmv(A A':Option Addr)(c c':Nat)(a b:List ByteArray)(w:World)(ha:Qav w w.heap.size sone 1 A a)(hb:Qav w w.heap.size sone 1 A' b)(hla:a.length<=1048576)(hlb:b.length<=1048576) :
 Calls Tryz.prog 236 #[.slice A a.length c,.slice A' b.length c'] w fun e w'=>e=.returned (.bool (Qh8 a b))/\Ext w w':=by
 obtain⟨fin,hfin⟩:∃ fin,fin=Qh8 a b:=⟨_,rfl⟩
 rw[<-hfin]
 by_cases hl:a.length=b.length
 case neg=>
  have E:=hU (show fin=false by rw[hfin];exact Qu1 hl)
  have hl2:¬ ((a.length:Int)=(b.length:Int)):=by omega
  clear hfin
  go_enter Tryz.func236,Tryz.ntmps236
  go_wp2_with fail
  go_ret
  exact⟨Qam E.out.symm,Below.refl w.heap.size w⟩
 have F:=hU hfin
 obtain⟨n,hn⟩:∃ n,n=a.length:=⟨_,rfl⟩
 have hn2:b.length=n:=by omega
 rw[<-hn] at hla
 rw[<-hn,hn2]
 have HN:=hU hn;have HN2:=hU hn2
 clear hfin hl hn hn2 hlb
 go_enter Tryz.func236,Tryz.ntmps236
 go_wp2_with fail
 go_loopw [13] (fun i wr=>∃ k:Nat,k<=n/\i=.int .i64 k/\(∀ j x y,j<k->a[j]?=some x->b[j]?=some y->(x.toList==y.toList)=true)/\Ext w wr) (fun i _=>n-(intOf i).toNat)
 case atStart=>exact⟨0,Nat.zero_le _,rfl,fun j _ _ h=>absurd h (Nat.not_lt_zero j),Below.refl w.heap.size w⟩
 case round=>
  obtain⟨k,hk,rfl,hi,he⟩:=hrel
  have Hi:=hU hi
  clear hi
  by_cases hlt:k<n
  case neg=>
   have E:=hU (show fin=true by rw[F.out];exact Qu2 (by rw[<-HN.out,HN2.out]) (fun j x y hj=>Hi.out j x y (by have:=HN.out;omega)))
   go_wp2_with fail
   go_ret
   exact⟨Qam E.out.symm,he⟩
  obtain⟨x,hx⟩:∃ x,a[k]?=some x:=⟨a[k]'(by have:=HN.out;omega),List.getElem?_eq_getElem (by have:=HN.out;omega)⟩
  obtain⟨y,hy⟩:∃ y,b[k]?=some y:=⟨b[k]'(by have:=HN2.out;omega),List.getElem?_eq_getElem (by have:=HN2.out;omega)⟩
  obtain⟨b1,o1,rfl,hb1,c1⟩:=Qdo (ha.ext he) hx
  obtain⟨b2,o2,rfl,hb2,c2⟩:=Qdo (hb.ext he) hy
  have X:=hU hx;have Y:=hU hy
  clear hx hy ha hb
  cases q:(x.toList==y.toList)
  · have E:=hU (show fin=false by rw[F.out];exact Qxg X.out Y.out q)
    have q2:=Qiz q
    go_wp2_with fail
    go_quiet (fail)
    go_wp2_with fail
    go_ret
    exact⟨Qam E.out.symm,he.drewN _⟩
  · have E:=hU (show ∀ j x y,j<k+1->a[j]?=some x->b[j]?=some y->(x.toList==y.toList)=true from fun j x' y' hj hx' hy'=>by
     rcases Nat.lt_or_ge j k with h|h
     · exact Hi.out j x' y' h hx' hy'
     · obtain rfl:j=k:=by omega
       have e1:=X.out.symm.trans hx'
       have e2:=Y.out.symm.trans hy'
       cases e1;cases e2;exact q)
    have q2:=Qiz q
    go_wp2_with fail
    go_quiet (fail)
    go_wp2_with fail
    go_roundw
    case rel=>exact⟨k+1,by omega,by go_num,E.out,he.drewN _⟩
    case measure=>simp[intOf];omega
set_option maxHeartbeats 4000000
theorem Qrx:(Tryz.prog.info? 42).map (fun i=>(i.zero,i.size,i.bytes))=some (some (.agg #[.string ⟨#[]⟩,.string ⟨#[]⟩,.int .i64 0]),3,40):=by kernel_rfl
theorem Qoq(A:Option Addr)(c:Nat)(l:List ByteArray)(w:World)(hr:Qav w w.heap.size sone 1 A l)(hl:l.length<=1048576)(hsz:∀ x∈l,x.size<=1099511627776) :
 Calls Tryz.prog 60 #[.slice A l.length c] w fun e w'=>Ext w w'/\((l.all Qdf=false/\e=.returned (.tuple #[.slice none 0 0,.bool false]))\/(l.all Qdf=true/\∃ v,e=.returned (.tuple #[v,.bool true])/\w'.ownsRow w.heap.size 42 3 v l.length ((l.map rrD).flatMap Qab.cells))):=by
 obtain⟨i0,hi,hz0,hz1,hz2⟩:=info_parts Qrx
 have HR:=hU hr;have Hsz:=hU hsz
 clear hr hsz
 go_enter Tryz.func60,Tryz.ntmps60
 go_wp2_with fail
 go_loopw [4,11] (fun v i wr=>∃ k:Nat,k<=l.length/\i=.int .i64 k/\(∀ x∈l.take k,Qdf x=true)/\wr.ownsRow w.heap.size 42 3 v k (((l.take k).map rrD).flatMap Qab.cells)/\Ext w wr) (fun _ i _=>l.length-(intOf i).toNat)
 case atStart=>exact⟨0,Nat.zero_le _,rfl,by simp,World.ownsRow_nil _ _ _ _,Below.refl w.heap.size w⟩
 case round=>
  obtain⟨k,hk,rfl,hall,hown,he⟩:=hrel
  obtain⟨V,cv,rfl,hnc⟩:=Qae hown
  have KO:=hU hown;have HA:=hU hall
  clear hown hall
  by_cases hlt:k<l.length
  case neg=>
   obtain rfl:k=l.length:=by omega
   have E:=hU (show l.all Qdf=true by rw[List.all_eq_true];have:=HA.out;rwa [List.take_length] at this)
   have KO2:=hU (show _ from by have:=KO.out;rwa [List.take_length] at this)
   go_wp2_with fail
   go_ret2
   exact⟨he,Or.inr ⟨E.out,_,rfl,KO2.out⟩⟩
  obtain⟨x,hx⟩:∃ x,l[k]?=some x:=⟨l[k],List.getElem?_eq_getElem hlt⟩
  obtain⟨b,off,rfl,hb,c0⟩:=Qdo (HR.out.ext he) hx
  have hxs:=Hsz.out x (List.mem_of_getElem? hx)
  have X:=hU hx
  clear hx
  go_wp2_with fail
  refine(Qof x _ hxs).mono ?_
  rintro e w1 ⟨rfl,h1⟩
  replace he:=he.next h1;replace KO:=hU (Qag KO.out h1)
  clear h1 c0
  cases p1:Qdf x
  · have E:=hU (show l.all Qdf=false by rw[List.all_eq_false];exact⟨x,List.mem_of_getElem? X.out,by rw[p1];simp⟩)
    simp only[rrRes,Qab.cells,Bool.false_eq_true,if_false]
    go_wp2_with fail
    go_ret2
    exact⟨he.new _,Or.inl ⟨E.out,rfl⟩⟩
  obtain⟨d,hd⟩:∃ d,d=rrD x:=⟨_,rfl⟩
  rw[<-hd]
  have HD:=hU hd
  clear hd
  simp only[rrRes,Qab.cells,if_true]
  go_upto_region 6 with fail
  have kd:=Blk.new w1 42 #[.string d.reader,.string d.topic,.int .i64 d.index]
  have hx1:=Ext.new (Below.refl w1.heap.size w1) (.cells #[.string d.reader,.string d.topic,.int .i64 d.index] 42)
  replace he:=he.next hx1;replace KO:=hU (Qag KO.out hx1)
  obtain⟨q,hq⟩:∃ q,q=w1.heap.size:=⟨_,rfl⟩
  rw[<-hq] at kd
  rw[<-hq]
  have hqw:=kd.lt
  have hs1:=hq
  clear hq hx1
  obtain⟨w2,hw2⟩:∃ w2,w2=w1.alloc (.cells #[.string d.reader,.string d.topic,.int .i64 d.index] 42):=⟨_,rfl⟩
  rw[<-hw2] at kd he KO hqw
  have hs2:w2.heap.size=q+1:=by rw[hw2,World.size_alloc,hs1]
  rw[<-hw2]
  have HS2:=hU hs2
  clear hw2 hs1 hs2
  obtain⟨rq,fq⟩:=kd.rules
  have hws:=he.size
  go_wp2_with (at_builtin;refine Qap _ rfl _ _ 27 rfl w.heap.size 42 i0 (.agg #[.string ⟨#[]⟩,.string ⟨#[]⟩,.int .i64 0]) 3 40 Tryz.underlying27 hi hz0 hz1 hz2 rfl (by decide) _ _ _ rfl (KO.out.alloc _) ⟨w2.heap.size,0,none⟩ 1 1 (#[.string d.reader,.string d.topic,.int .i64 d.index]:Array Value).toList rfl rfl ?c1 ?c2 ?c3 ?c4 ?c5 ?_)
  case c2=>exact⟨rfl,rfl,rfl⟩
  case c3=>unfold maxLen;omega
  case c4=>omega
  case c5=>simp;omega
  intro v' w3 hown' hfrm hmv
  have L0:=hU KO.out.lt
  have he2:Ext w w3:=hfrm.toExt (he.new _) (fun y hy e=>by have:=(L0.out _ e).1;omega)
  obtain⟨hkl,hkd⟩:=List.getElem?_eq_some_iff.1 X.out
  have e2:((l.take k).map rrD).flatMap Qab.cells++Qab.cells d=((l.take (k+1)).map rrD).flatMap Qab.cells:=by rw[List.take_succ_eq_append_getElem hkl,hkd,HD.out];simp
  have O2:=hU (show w3.ownsRow w.heap.size 42 3 v' (k+1) (((l.take (k+1)).map rrD).flatMap Qab.cells) by rw[<-e2,List.map_take];exact hown')
  have HA2:=hU (show ∀ y∈l.take (k+1),Qdf y=true from fun y hy=>by
   rw[List.take_succ_eq_append_getElem hkl,List.mem_append] at hy
   rcases hy with hy|hy
   · exact HA.out y hy
   · obtain rfl:=List.mem_singleton.1 hy
     rw[hkd];exact p1)
  clear hown' hfrm hmv L0 hkd e2 KO he rq fq p1
  go_wp2_with fail
  go_roundw
  case rel=>exact⟨k+1,by omega,by go_num,HA2.out,O2.out,he2⟩
  case measure=>simp[intOf];omega
theorem Qqs(A:Option Addr)(c:Nat)(l:List ByteArray)(w:World)(hr:Qav w w.heap.size sone 1 A l)(hl:l.length<=1048576)(hsz:∀ x∈l,x.size<=1099511627776) :
 Calls Tryz.prog 58 #[.slice A l.length c] w fun e w'=>Ext w w'/\((l.all Qc7=false/\e=.returned (.tuple #[.slice none 0 0,.bool false]))\/(l.all Qc7=true/\∃ v,e=.returned (.tuple #[v,.bool true])/\w'.ownsRow w.heap.size 40 5 v l.length ((l.map rlD).flatMap Qaf.cells))):=by
 obtain⟨i0,hi,hz0,hz1,hz2⟩:=info_parts Qlq
 have HR:=hU hr;have Hsz:=hU hsz
 clear hr hsz
 go_enter Tryz.func58,Tryz.ntmps58
 go_wp2_with fail
 go_loopw [4,11] (fun v i wr=>∃ k:Nat,k<=l.length/\i=.int .i64 k/\(∀ x∈l.take k,Qc7 x=true)/\wr.ownsRow w.heap.size 40 5 v k (((l.take k).map rlD).flatMap Qaf.cells)/\Ext w wr) (fun _ i _=>l.length-(intOf i).toNat)
 case atStart=>exact⟨0,Nat.zero_le _,rfl,by simp,World.ownsRow_nil _ _ _ _,Below.refl w.heap.size w⟩
 case round=>
  obtain⟨k,hk,rfl,hall,hown,he⟩:=hrel
  obtain⟨V,cv,rfl,hnc⟩:=Qae hown
  have KO:=hU hown;have HA:=hU hall
  clear hown hall
  by_cases hlt:k<l.length
  case neg=>
   obtain rfl:k=l.length:=by omega
   have E:=hU (show l.all Qc7=true by rw[List.all_eq_true];have:=HA.out;rwa [List.take_length] at this)
   have KO2:=hU (show _ from by have:=KO.out;rwa [List.take_length] at this)
   go_wp2_with fail
   go_ret2
   exact⟨he,Or.inr ⟨E.out,_,rfl,KO2.out⟩⟩
  obtain⟨x,hx⟩:∃ x,l[k]?=some x:=⟨l[k],List.getElem?_eq_getElem hlt⟩
  obtain⟨b,off,rfl,hb,c0⟩:=Qdo (HR.out.ext he) hx
  have hxs:=Hsz.out x (List.mem_of_getElem? hx)
  have X:=hU hx
  clear hx
  go_wp2_with fail
  refine(Qsg x _ hxs).mono ?_
  rintro e w1 ⟨rfl,h1⟩
  replace he:=he.next h1;replace KO:=hU (Qag KO.out h1)
  clear h1 c0
  cases p1:Qc7 x
  · have E:=hU (show l.all Qc7=false by rw[List.all_eq_false];exact⟨x,List.mem_of_getElem? X.out,by rw[p1];simp⟩)
    simp only[rlRes,rlOut,Qaf.cells,Bool.false_eq_true,if_false]
    go_wp2_with fail
    go_ret2
    exact⟨he.new _,Or.inl ⟨E.out,rfl⟩⟩
  obtain⟨d,hd⟩:∃ d,d=rlD x:=⟨_,rfl⟩
  rw[<-hd]
  have HD:=hU hd
  clear hd
  simp only[rlRes,rlOut,Qaf.cells,if_true]
  go_upto_region 6 with fail
  have kd:=Blk.new w1 40 #[.string d.topic,.int .i64 d.index,.int .i64 d.time,.string d.key,.string d.body]
  have hx1:=Ext.new (Below.refl w1.heap.size w1) (.cells #[.string d.topic,.int .i64 d.index,.int .i64 d.time,.string d.key,.string d.body] 40)
  replace he:=he.next hx1;replace KO:=hU (Qag KO.out hx1)
  obtain⟨q,hq⟩:∃ q,q=w1.heap.size:=⟨_,rfl⟩
  rw[<-hq] at kd
  rw[<-hq]
  have hqw:=kd.lt
  have hs1:=hq
  clear hq hx1
  obtain⟨w2,hw2⟩:∃ w2,w2=w1.alloc (.cells #[.string d.topic,.int .i64 d.index,.int .i64 d.time,.string d.key,.string d.body] 40):=⟨_,rfl⟩
  rw[<-hw2] at kd he KO hqw
  have hs2:w2.heap.size=q+1:=by rw[hw2,World.size_alloc,hs1]
  rw[<-hw2]
  have HS2:=hU hs2
  clear hw2 hs1 hs2
  obtain⟨rq,fq⟩:=kd.rules
  have hws:=he.size
  go_wp2_with (at_builtin;refine Qap _ rfl _ _ 24 rfl w.heap.size 40 i0 (.agg #[.string ⟨#[]⟩,.int .i64 0,.int .i64 0,.string ⟨#[]⟩,.string ⟨#[]⟩]) 5 64 Tryz.underlying24 hi hz0 hz1 hz2 rfl (by decide) _ _ _ rfl (KO.out.alloc _) ⟨w2.heap.size,0,none⟩ 1 1 (#[.string d.topic,.int .i64 d.index,.int .i64 d.time,.string d.key,.string d.body]:Array Value).toList rfl rfl ?c1 ?c2 ?c3 ?c4 ?c5 ?_)
  case c2=>exact⟨rfl,rfl,rfl,rfl,rfl⟩
  case c3=>unfold maxLen;omega
  case c4=>omega
  case c5=>simp;omega
  intro v' w3 hown' hfrm hmv
  have L0:=hU KO.out.lt
  have he2:Ext w w3:=hfrm.toExt (he.new _) (fun y hy e=>by have:=(L0.out _ e).1;omega)
  obtain⟨hkl,hkd⟩:=List.getElem?_eq_some_iff.1 X.out
  have e2:((l.take k).map rlD).flatMap Qaf.cells++Qaf.cells d=((l.take (k+1)).map rlD).flatMap Qaf.cells:=by rw[List.take_succ_eq_append_getElem hkl,hkd,HD.out];simp
  have O2:=hU (show w3.ownsRow w.heap.size 40 5 v' (k+1) (((l.take (k+1)).map rlD).flatMap Qaf.cells) by rw[<-e2,List.map_take];exact hown')
  have HA2:=hU (show ∀ y∈l.take (k+1),Qc7 y=true from fun y hy=>by
   rw[List.take_succ_eq_append_getElem hkl,List.mem_append] at hy
   rcases hy with hy|hy
   · exact HA.out y hy
   · obtain rfl:=List.mem_singleton.1 hy
     rw[hkd];exact p1)
  clear hown' hfrm hmv L0 hkd e2 KO he rq fq p1
  go_wp2_with fail
  go_roundw
  case rel=>exact⟨k+1,by omega,by go_num,HA2.out,O2.out,he2⟩
  case measure=>simp[intOf];omega
end Go.Proofs.YtbnkjgcpjeedfaaGreat

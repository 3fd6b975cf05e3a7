/-
  Reopen1; ReadsTk; MapStr; MapRec; LogOks; DiskOks; ReopenP; SpecUnfr; SpecRec; ReopenQ; NodeW: No condition.
-/
import Derived.Test.YtbnkjgcpjeedfaaGreatReopen0
import Derived.Test.YtbnkjgcpjeedfaaGreatReadHd
import Derived.Test.YtbnkjgcpjeedfaaGreatBrkV
import Derived.Test.YtbnkjgcpjeedfaaGreatMem
import Derived.Test.YtbnkjgcpjeedfaaGreatRowTx
import Derived.Maps.OwnSet
import Derived.Test.YtbnkjgcpjeedfaaGreatLeaf
import Derived.Test.YtbnkjgcpjeedfaaGreatHeadOps
import Derived.DeepKeys4
import Derived.Test.YtbnkjgcpjeedfaaGreatBunch
import Derived.Test.YtbnkjgcpjeedfaaGreatReadLf
import Derived.Test.YtbnkjgcpjeedfaaGreatLeafText
import Derived.Test.YtbnkjgcpjeedfaaGreatHashTop
namespace Go.Proofs.YtbnkjgcpjeedfaaGreat
set_option maxHeartbeats 4000000
set_option maxRecDepth 100000
set_option linter.unusedSimpArgs false
open Go.RowKit
set_option linter.unusedVariables false
theorem Qxz:(Tryz.prog.info? 33).map (fun i=>(i.zero,i.size,i.bytes))=some (some (.agg #[.int .i64 0,.int .i64 0,.string ⟨#[]⟩,.int .i64 0,.string ⟨#[]⟩]),5,56):=by kernel_rfl
theorem Qtb(n:Int)(A:Option Addr)(c:Nat)(l:List ByteArray)(w:World)(hr:Qav w w.heap.size sone 1 A l)(hl:l.length<=1048576)(hsz:∀ x∈l,x.size<=1099511627776) :
 Calls Tryz.prog 62 #[.int .i64 n,.slice A l.length c] w fun e w'=>Ext w w'/\((l.all (Qer n)=false/\e=.returned (.tuple #[.slice none 0 0,.bool false]))\/(l.all (Qer n)=true/\∃ v,e=.returned (.tuple #[v,.bool true])/\w'.ownsRow w.heap.size 33 5 v (l.length+1) ((newH (inR n 1 32) n :: l.map (hrD n)).flatMap Qak.cells))):=by
 obtain⟨i0,hi,hz0,hz1,hz2⟩:=info_parts Qxz
 have HR:=hU hr;have Hsz:=hU hsz
 clear hr hsz
 obtain⟨h,hh⟩:∃ h,h=newH (inR n 1 32) n:=⟨_,rfl⟩
 rw[<-hh]
 have Hh:=hU hh
 clear hh
 go_enter Tryz.func62,Tryz.ntmps62
 go_wp2_with fail
 refine(Qie n _).mono ?_
 rintro e w1 ⟨he1,h1⟩
 rw[<-Hh.out] at he1
 subst he1
 have he:=h1
 have hs1:=h1.size
 clear h1
 go_upto_region 2 with fail
 have hD:=Blk.new w1 33 #[.int .i64 h.number,.int .i64 h.size,.string h.root,.int .i64 h.taken,.string h.takenRoot]
 replace he:=he.new (.cells #[.int .i64 h.number,.int .i64 h.size,.string h.root,.int .i64 h.taken,.string h.takenRoot] 33)
 obtain⟨g2,hg2⟩:∃ g2,g2=w1.heap.size:=⟨_,rfl⟩
 rw[<-hg2] at hD hs1
 rw[<-hg2]
 clear hg2
 obtain⟨w2,hw2⟩:∃ w2,w2=w1.alloc (.cells #[.int .i64 h.number,.int .i64 h.size,.string h.root,.int .i64 h.taken,.string h.takenRoot] 33):=⟨_,rfl⟩
 rw[<-hw2] at hD he
 rw[<-hw2]
 clear hw2
 obtain⟨dc,df⟩:=hD.rules
 have hws2:=he.size
 have hgl2:=hD.lt
 have K3:=hU ((Blk.new w2 33 #[.int .i64 h.number,.int .i64 h.size,.string h.root,.int .i64 h.taken,.string h.takenRoot]).ownsRow (xs:=h.cells) 1 5 w.heap.size hws2 rfl (by unfold maxLen;omega))
 have He3:=hU (he.new (.cells #[.int .i64 h.number,.int .i64 h.size,.string h.root,.int .i64 h.taken,.string h.takenRoot] 33))
 clear he hD
 go_wp2_with fail
 go_loopw [8,22] (fun v i wr=>∃ k:Nat,k<=l.length/\i=.int .i64 k/\(∀ x∈l.take k,Qer n x=true)/\wr.ownsRow w.heap.size 33 5 v (k+1) ((h :: (l.take k).map (hrD n)).flatMap Qak.cells)/\Ext w wr) (fun _ i _=>l.length-(intOf i).toNat)
 case atStart=>exact⟨0,Nat.zero_le _,rfl,by simp,by simpa using K3.out,He3.out⟩
 case round=>
  clear K3 He3 dc df hws2 hgl2
  obtain⟨k,hk,rfl,hall,hown,he⟩:=hrel
  obtain⟨V,cv,rfl,hnc⟩:=Qae hown
  have KO:=hU hown;have HA:=hU hall
  clear hown hall
  by_cases hlt:k<l.length
  case neg=>
   obtain rfl:k=l.length:=by omega
   have E:=hU (show l.all (Qer n)=true by rw[List.all_eq_true];have:=HA.out;rwa [List.take_length] at this)
   have KO2:=hU (show _ from by have:=KO.out;rwa [List.take_length] at this)
   go_wp2_with fail
   go_ret2
   exact⟨he,Or.inr ⟨E.out,_,rfl,KO2.out⟩⟩
  obtain⟨x,hx⟩:∃ x,l[k]?=some x:=⟨l[k],List.getElem?_eq_getElem hlt⟩
  obtain⟨b,off,rfl,hb,c0⟩:=Qdo (HR.out.ext he) hx
  have hxs:=Hsz.out x (List.mem_of_getElem? hx)
  have X:=hU hx
  clear hx
  go_wp2_with fail
  refine(Qmg n x _ hxs).mono ?_
  rintro e w1 ⟨rfl,h1⟩
  replace he:=he.next h1;replace KO:=hU (Qag KO.out h1)
  clear h1 c0
  cases p1:Qer n x
  · have E:=hU (show l.all (Qer n)=false by rw[List.all_eq_false];exact⟨x,List.mem_of_getElem? X.out,by rw[p1];simp⟩)
    simp only[Qta,hrOut,Qak.cells,Bool.false_eq_true,if_false]
    go_wp2_with fail
    go_ret2
    exact⟨he.new _,Or.inl ⟨E.out,rfl⟩⟩
  obtain⟨d,hd⟩:∃ d,d=hrD n x:=⟨_,rfl⟩
  rw[<-hd]
  have HD:=hU hd
  clear hd
  simp only[Qta,hrOut,Qak.cells,if_true]
  go_upto_region 7 with fail
  have kd:=Blk.new w1 33 #[.int .i64 d.number,.int .i64 d.size,.string d.root,.int .i64 d.taken,.string d.takenRoot]
  have hx1:=Ext.new (Below.refl w1.heap.size w1) (.cells #[.int .i64 d.number,.int .i64 d.size,.string d.root,.int .i64 d.taken,.string d.takenRoot] 33)
  replace he:=he.next hx1;replace KO:=hU (Qag KO.out hx1)
  obtain⟨q,hq⟩:∃ q,q=w1.heap.size:=⟨_,rfl⟩
  rw[<-hq] at kd
  rw[<-hq]
  have hqw:=kd.lt
  have hs1:=hq
  clear hq hx1
  obtain⟨w2,hw2⟩:∃ w2,w2=w1.alloc (.cells #[.int .i64 d.number,.int .i64 d.size,.string d.root,.int .i64 d.taken,.string d.takenRoot] 33):=⟨_,rfl⟩
  rw[<-hw2] at kd he KO hqw
  have hs2:w2.heap.size=q+1:=by rw[hw2,World.size_alloc,hs1]
  rw[<-hw2]
  have HS2:=hU hs2
  clear hw2 hs1 hs2
  obtain⟨rq,fq⟩:=kd.rules
  have hws:=he.size
  go_wp2_with (at_builtin;refine Qap _ rfl _ _ 28 rfl w.heap.size 33 i0 (.agg #[.int .i64 0,.int .i64 0,.string ⟨#[]⟩,.int .i64 0,.string ⟨#[]⟩]) 5 56 Tryz.underlying28 hi hz0 hz1 hz2 rfl (by decide) _ _ _ rfl (KO.out.alloc _) ⟨w2.heap.size,0,none⟩ 1 1 (#[.int .i64 d.number,.int .i64 d.size,.string d.root,.int .i64 d.taken,.string d.takenRoot]:Array Value).toList rfl rfl ?c1 ?c2 ?c3 ?c4 ?c5 ?_)
  case c2=>exact⟨rfl,rfl,rfl,rfl,rfl⟩
  case c3=>unfold maxLen;omega
  case c4=>omega
  case c5=>simp;omega
  intro v' w3 hown' hfrm hmv
  have L0:=hU KO.out.lt
  have he2:Ext w w3:=hfrm.toExt (he.new _) (fun y hy e=>by have:=(L0.out _ e).1;omega)
  obtain⟨hkl,hkd⟩:=List.getElem?_eq_some_iff.1 X.out
  have e2:(h :: (l.take k).map (hrD n)).flatMap Qak.cells++Qak.cells d=(h :: (l.take (k+1)).map (hrD n)).flatMap Qak.cells:=by rw[List.take_succ_eq_append_getElem hkl,hkd,HD.out];simp
  have O2:=hU (show w3.ownsRow w.heap.size 33 5 v' (k+1+1) ((h :: (l.take (k+1)).map (hrD n)).flatMap Qak.cells) by rw[<-e2,List.map_take];exact hown')
  have HA2:=hU (show ∀ y∈l.take (k+1),Qer n y=true from fun y hy=>by
   rw[List.take_succ_eq_append_getElem hkl,List.mem_append] at hy
   rcases hy with hy|hy
   · exact HA.out y hy
   · obtain rfl:=List.mem_singleton.1 hy
     rw[hkd];exact p1)
  clear hown' hfrm hmv L0 hkd e2 KO he rq fq p1
  go_wp2_with fail
  go_roundw
  case rel=>exact⟨k+1,by omega,by go_num,HA2.out,O2.out,he2⟩
  case measure=>simp[intOf];omega
theorem Qpd{α:Type}{f:α->List Value}{size:Nat}{w:World}{B:Nat}{A:Option Addr}{l:List α}(hf:∀ a,(f a).length=size)(h:Qav w B f size A l)(k:Nat)(hk:k<=l.length):Qav w B f size A (l.take k):=by
 refine⟨Qes f size hf _,fun hn=>?_⟩
 obtain⟨b,off,e,hb,hc⟩:=h.2 (by rw[List.length_take] at hn;omega)
 refine⟨b,off,e,hb,fun j u hu=>hc j u ?_⟩
 conv=>lhs;rw[<-List.take_append_drop k l,List.flatMap_append]
 rw[List.getElem?_append_left (List.getElem?_eq_some_iff.1 hu).1]
 exact hu
end Go.Proofs.YtbnkjgcpjeedfaaGreat
namespace Go.Proofs.YtbnkjgcpjeedfaaGreat
set_option linter.unusedSimpArgs false
open Go.RowKit Go.WideMaps Go.Maps
set_option linter.unusedVariables false
theorem Qud:Keyed Tryz.prog 9:=string_keyed Tryz.underlying9
theorem Qxu(w:World):(zeroValue 3).run Tryz.prog w=.ok (.int .i64 0) w:=by kernel_rfl
def skey (s:ByteArray):Lit:=.string s.data.toList
theorem skey_inj{s t:ByteArray}(h:skey s=skey t):s=t:=by
 simp only[skey,Lit.string.injEq] at h
 exact ByteArray.ext (Array.toList_inj.1 h)
def Qja (w:World) (B n:Nat) (f:ByteArray->Option Nat):Prop:=
 ∃ D:DataW Unit,w.ownsMap Tryz.prog 9 (plainElem Tryz.prog 3) B n D/\∀ s,Maps.has D (skey s)=(f s).isSome/\D.atKey (skey s) (.lit (.int .i64 0))=.lit (.int .i64 (((f s).getD 0:Nat):Int))
theorem Qja.made(w:World):Qja (w.alloc (.map #[] 0)) w.heap.size 0 (fun _=>none):=
 ⟨.map [],World.ownsMap_made _ _ _ _,fun s=>⟨rfl,rfl⟩⟩
theorem Qja.lt{w:World}{B n:Nat}{f:ByteArray->Option Nat}(h:Qja w B n f):B<w.heap.size:=by obtain⟨D,h,_⟩:=h;exact h.lt
theorem Qm6{H:Type}{P:Program}{k:TypeId}{R:Value->Option (DataW H × List MemPlace)}{w w':World}{B n:Nat}{D:DataW H}(h:w.ownsMap P k R B n D)(he:Ext w w'):w'.ownsMap P k R B n D:=by
 have hlt:=h.lt
 obtain⟨es,clock,hb,r⟩:=h
 exact⟨es,clock,(he.block B hlt).trans hb,r⟩
theorem Qja.ext{w w':World}{B n:Nat}{f:ByteArray->Option Nat}(h:Qja w B n f)(he:Ext w w'):Qja w' B n f:=by
 obtain⟨D,h,k⟩:=h
 exact⟨D,Qm6 h he,k⟩
theorem Qja.look1{w:World}{B n:Nat}{f:ByteArray->Option Nat}(h:Qja w B n f)(s:ByteArray)(hs:s.size<=maxLen):(Instr.lookup 144 (.map (some B)) (.string s) false).run Tryz.prog w=.ok (.int .i64 (((f s).getD 0:Nat):Int)) w:=by
 obtain⟨D,h,k⟩:=h
 obtain⟨c,hrun,hc,_⟩:=h.lookup_int Qud Tryz.underlying144 Tryz.underlying3 (Qxu w) (keyOf_string_mk Tryz.underlying9 hs)
 have h2:=(k s).2
 rw[show(Lit.string s.data.toList)=skey s from rfl] at hc
 rw[hc] at h2
 simp only[DataW.lit.injEq,Lit.int.injEq,true_and] at h2
 rw[hrun,h2]
def fput (f:ByteArray->Option Nat) (s:ByteArray) (m:Nat):ByteArray->Option Nat:=fun t=>if t=s then some m else f t
theorem Qja.put{w':World}{B n m:Nat}{f:ByteArray->Option Nat}{s:ByteArray}{D:DataW Unit}(hD:∀ s,Maps.has D (skey s)=(f s).isSome/\D.atKey (skey s) (.lit (.int .i64 0))=.lit (.int .i64 (((f s).getD 0:Nat):Int)))
 (hm:IsMap D) (h':w'.ownsMap Tryz.prog 9 (plainElem Tryz.prog 3) B (n+1) (D.put (skey s) (.lit (.int .i64 (m:Int))))):Qja w' B (n+1) (fput f s m):=by
 refine⟨_,h',fun t=>?_⟩
 unfold fput
 by_cases e:t=s
 · subst e
   simp only[if_true,Option.isSome_some,Option.getD_some]
   exact⟨has_put_same hm (show WideAt.IsKeyLit (.string _) from trivial) _,atKey_put_same hm (show WideAt.IsKeyLit (.string _) from trivial) _ _⟩
 · have hne:skey t≠skey s:=fun h=>e (skey_inj h)
   rw[if_neg e,has_put_other hne,atKey_put_other hne]
   exact hD t
theorem Qmn(w:World){ops:Array Oper}{rest:List Oper}{o:Oper}{a:Act}{Q:Exit->Act->World->Prop}(hg:o.guard=none)(m x v:Operand)(hop:o.op=Op.mapUpdate 144 m x v)(B n q:Nat)(s:ByteArray)(f:ByteArray->Option Nat)
 (hm:a.eval m=.map (some B)) (hown:Qja w B n f) (hn:n<maxLen) (hx:a.eval x=.string s) (hv:a.eval v=.int .i64 (q:Int)) (hs:s.size<=maxLen) (hq:q<=1099511627776)
 (hK:∀ w',Qja w' B (n+1) (fput f s q)->w.grownBy w' (some B)->wpList Tryz.prog ops Q rest (a.put o.dst undef) w'):wpList Tryz.prog ops Q (o :: rest) a w:=by
 obtain⟨D,h,k⟩:=hown
 have wf:(Lit.int .i64 (q:Int)).wf=true:=WalkArith.wf_i64 (by omega)
 exact wpList_mapUpdate_own w hg m x v 144 hop 9 3 Qud Tryz.underlying144 _ B n D hm h hn _ _ _ hx hv (keyOf_string_mk Tryz.underlying9 hs) _ [] (plainElem_int Tryz.underlying3 wf) (fun w' h1 h2=>hK w' (Qja.put k h.isMap h1) h2)
theorem Ext.mapGrown{W w w':World}{B:Nat}(he:Ext W w)(hg:w.grownBy w' (some B))(hB:W.heap.size<=B):Ext W w':=Below.grown he hg he.size (fun k hk=>by cases hk;exact hB)
set_option maxRecDepth 100000
theorem Qkd:Keyed Tryz.prog 42:=Keyed.of_law (deep_law_laid (by kernel_rfl) (m:=2) (by omega) (of_decide_eq_true (by kernel_rfl)) (by kernel_rfl) (by rw[Tryz.underlying42]))
def rval (d:Qab):Value:=.agg #[.string d.reader,.string d.topic,.int .i64 d.index]
theorem rval_inj{a b:Qab}(h:rval a=rval b):a=b:=by
 obtain⟨a1,a2,a3⟩:=a
 obtain⟨b1,b2,b3⟩:=b
 simpa [rval] using h
theorem rec_key(d:Qab)(hd:d.Ok):∃ l,keyOf Tryz.prog 42 (rval d)=some l:=by
 obtain⟨h1,h2,h3⟩:=hd
 obtain⟨m,hm⟩:∃ m,Tryz.prog.types.size=m+1:=⟨_,rfl⟩
 have k1:Tryz.prog.keyType 42=true:=by kernel_rfl
 have k2:Tryz.prog.cellsOf 42=3:=by kernel_rfl
 have k3:Tryz.prog.cellsOf 3=1:=by kernel_rfl
 have k4:Tryz.prog.cellsOf 9=1:=by kernel_rfl
 have k5:(rval d).formed Tryz.prog 42=true:=by simp[rval,Value.formed,Tryz.underlying42,k2]
 unfold keyOf
 rw[Tryz.underlying42]
 simp only[k1,k5,Bool.and_self,if_true,hm]
 simp[Program.keyLits,Tryz.underlying42,Tryz.underlying3,Tryz.underlying9,k2,k3,k4,rval,Value.cells,h1,h2,h3]
noncomputable def rkey (d:Qab):Lit:=(keyOf Tryz.prog 42 (rval d)).getD (.bool false)
theorem Qh4(d:Qab)(hd:d.Ok):keyOf Tryz.prog 42 (rval d)=some (rkey d):=by
 obtain⟨l,h⟩:=rec_key d hd
 rw[rkey,h];rfl
theorem Qt7(d:Qab)(hd:d.Ok):WideAt.IsKeyLit (rkey d):=Qkd.key (Qh4 d hd)
theorem rkey_inj{a b:Qab}(ha:a.Ok)(hb:b.Ok)(h:rkey a=rkey b):a=b:=
 rval_inj (Qkd.inj (Qh4 a ha) (by rw[h];exact Qh4 b hb))
def Qdm (w:World) (B n:Nat) (f:Qab->Option Nat):Prop:=
 ∃ D:DataW Unit,w.ownsMap Tryz.prog 42 (plainElem Tryz.prog 3) B n D/\∀ s:Qab,s.Ok->Maps.has D (rkey s)=(f s).isSome/\D.atKey (rkey s) (.lit (.int .i64 0))=.lit (.int .i64 (((f s).getD 0:Nat):Int))
theorem Qdm.made(w:World):Qdm (w.alloc (.map #[] 0)) w.heap.size 0 (fun _=>none):=
 ⟨.map [],World.ownsMap_made _ _ _ _,fun s _=>⟨rfl,rfl⟩⟩
theorem Qdm.lt{w:World}{B n:Nat}{f:Qab->Option Nat}(h:Qdm w B n f):B<w.heap.size:=by obtain⟨D,h,_⟩:=h;exact h.lt
theorem Qdm.ext{w w':World}{B n:Nat}{f:Qab->Option Nat}(h:Qdm w B n f)(he:Ext w w'):Qdm w' B n f:=by
 obtain⟨D,h,k⟩:=h
 exact⟨D,Qm6 h he,k⟩
theorem Qdm.look1{w:World}{B n:Nat}{f:Qab->Option Nat}(h:Qdm w B n f)(s:Qab)(hs:s.Ok):(Instr.lookup 170 (.map (some B)) (.agg #[.string s.reader,.string s.topic,.int .i64 s.index]) false).run Tryz.prog w=.ok (.int .i64 (((f s).getD 0:Nat):Int)) w:=by
 obtain⟨D,h,k⟩:=h
 obtain⟨c,hrun,hc,_⟩:=h.lookup_int Qkd Tryz.underlying170 Tryz.underlying3 (Qxu w) (Qh4 s hs)
 have h2:=(k s hs).2
 rw[hc] at h2
 simp only[DataW.lit.injEq,Lit.int.injEq,true_and] at h2
 unfold rval at hrun
 rw[hrun,h2]
def rput (f:Qab->Option Nat) (s:Qab) (m:Nat):Qab->Option Nat:=fun t=>if t.eqb s then some m else f t
theorem Qdm.put{w':World}{B n m:Nat}{f:Qab->Option Nat}{s:Qab}(hs:s.Ok){D:DataW Unit}(hD:∀ s:Qab,s.Ok->Maps.has D (rkey s)=(f s).isSome/\D.atKey (rkey s) (.lit (.int .i64 0))=.lit (.int .i64 (((f s).getD 0:Nat):Int)))
 (hm:IsMap D) (h':w'.ownsMap Tryz.prog 42 (plainElem Tryz.prog 3) B (n+1) (D.put (rkey s) (.lit (.int .i64 (m:Int))))):Qdm w' B (n+1) (rput f s m):=by
 refine⟨_,h',fun t ht=>?_⟩
 unfold rput
 cases e:t.eqb s
 · have hne:rkey t≠rkey s:=fun h=>by rw[rkey_inj ht hs h,Qab.eqb_self] at e;cases e
   simp only[Bool.false_eq_true,if_false]
   rw[has_put_other hne,atKey_put_other hne]
   exact hD t ht
 · obtain rfl:=(Qab.eqb_iff t s).1 e
   simp only[if_true,Option.isSome_some,Option.getD_some]
   exact⟨has_put_same hm (Qt7 t hs) _,atKey_put_same hm (Qt7 t hs) _ _⟩
end Go.Proofs.YtbnkjgcpjeedfaaGreat
namespace Go.Proofs.YtbnkjgcpjeedfaaGreat
set_option maxHeartbeats 2000000
set_option maxRecDepth 100000
set_option linter.unusedSimpArgs false
open Go.RowKit
set_option linter.unusedVariables false
def cntF (l:List Qaf) (t:ByteArray):Option Nat:=if cntT l t=0 then none else some (cntT l t)
theorem cntF_nil:cntF []=fun _=>none:=rfl
theorem cntF_get(l:List Qaf)(t:ByteArray):(cntF l t).getD 0=cntT l t:=by
 unfold cntF
 split
 · simp;omega
 · rfl
theorem Qyb{l:List Qaf}{k:Nat}{d:Qaf}(hd:l[k]?=some d):fput (cntF (l.take k)) d.topic (cntT (l.take k) d.topic+1)=cntF (l.take (k+1)):=by
 funext t
 unfold fput cntF
 rw[Qn5 hd]
 by_cases e:t=d.topic
 · subst e
   rw[if_pos rfl,if_pos (show Qgv d.topic d=true by simp[Qgv]),if_neg (by omega)]
 · have:Qgv t d=false:=by
    simp only[Qgv,beq_eq_false_iff_ne,ne_eq]
    intro h
    exact e (Qfm.1 h).symm
   simp[e,this]
theorem logAt_eq{l:List Qaf}{k:Nat}{d:Qaf}(hd:l[k]?=some d):Qqf l k=(Qbk d&&((cntT (l.take k) d.topic:Int)==d.index)):=by rw[Qqf,hd]
theorem Qko(A:Option Addr)(c:Nat)(l:List Qaf)(w:World)(hr:SlF AnyB Qaf.cells 5 w A l c)(hok:∀ d∈l,d.Ok) :
 Calls Tryz.prog 59 #[.agg #[.slice A l.length c]] w fun e w'=>e=.returned (.bool (Qgj l))/\Ext w w':=by
 have K0:=hU ((Blk.new w 26 #[.slice A l.length c]))
 have He:=hU (Ext.new (Below.refl w.heap.size w) (.cells #[.slice A l.length c] 26))
 have HR:=hU hr
 have Hok:=hU hok
 have hlm:=hr.len
 unfold maxLen at hlm
 obtain⟨fin,hfin⟩:∃ fin,fin=Qgj l:=⟨_,rfl⟩
 rw[<-hfin]
 by_cases h5:l.length<=512
 case neg=>
  have E:=hU (show fin=false by rw[hfin,Qgj,decide_eq_false h5];rfl)
  have h6:(512:Int)<(l.length:Int):=by omega
  clear hfin
  go_enter Tryz.func59,Tryz.ntmps59
  go_wp2_with fail
  go_ret
  exact⟨Qam E.out.symm,He.out⟩
 have F:=hU (show fin=Qed (Qqf l) l.length by rw[hfin,Qgj,decide_eq_true h5];rfl)
 clear hfin hok hr
 have hmm:=@run_makeMap Tryz.prog
 have M0:=hU (Qja.made (w.alloc (.cells #[.slice A l.length c] 26)))
 go_enter Tryz.func59,Tryz.ntmps59
 go_wp2_with fail
 obtain⟨g,hg⟩:∃ g,g=w.heap.size:=⟨_,rfl⟩
 have M1:=M0.out
 rw[World.size_alloc,<-hg] at M1
 have E1:=Ext.new He.out (.map #[] 0)
 have hg1:w.heap.size<=g+1:=by omega
 rw[<-hg]
 clear hg K0 M0 He hmm
 have M1:=hU M1;have E1:=hU E1
 go_loopw [14] (fun i wr=>∃ k:Nat,k<=l.length/\i=.int .i64 k/\Qed (Qqf l) k=true/\Qja wr (g+1) k (cntF (l.take k))/\Ext w wr) (fun i _=>l.length-(intOf i).toNat)
 case atStart=>exact⟨0,Nat.zero_le _,rfl,rfl,by rw[List.take_zero,cntF_nil];exact M1.out,E1.out⟩
 case round=>
  clear M1 E1
  obtain⟨k,hk,rfl,hi,hM,he⟩:=hrel
  have Hi:=hU hi;have KM:=hU hM
  clear hi hM
  by_cases hlt:k<l.length
  case neg=>
   have E:=hU (show fin=true by rw[F.out,show l.length=k by omega];exact Hi.out)
   go_wp2_with fail
   go_ret
   exact⟨Qam E.out.symm,he⟩
  obtain⟨b,off,rfl,hb,hc⟩:=Qbb.at_ (HR.out.ext he).reads (k:=k) hlt
  obtain⟨d,hd⟩:∃ d,d=l[k]:=⟨_,rfl⟩
  have hdl:l[k]?=some d:=by rw[hd];exact List.getElem?_eq_getElem hlt
  have hdo:=Hok.out d (List.mem_of_getElem? hdl)
  obtain⟨c0,c1,c2,c3,c4⟩:=Qdt hc hdl
  have Hdl:=hU hdl
  have LA:=hU (logAt_eq hdl)
  have NX:=hU (Qyb hdl)
  have hcl:=Qlt (l.take k) d.topic
  rw[List.length_take] at hcl
  have hc5:cntT (l.take k) d.topic<=512:=by omega
  have HDO:=hU hdo
  have hts:d.topic.size<=maxLen:=hdo.1
  have HT:=hU hts
  clear hc hd hdl hcl hdo hts
  cases p1:Qbk d
  · have E:=hU (show fin=false by rw[F.out];exact Qd2 (k:=k) (by rw[LA.out,p1];rfl) _ hlt)
    go_wp2_with fail
    refine(Qfa d _ HDO.out).mono ?_
    rintro e w1 ⟨rfl,h1⟩
    rw[p1]
    replace he:=(he.new _).next h1
    go_wp2_with fail
    go_ret
    exact⟨Qam E.out.symm,he⟩
  go_wp2_with fail
  refine(Qfa d _ HDO.out).mono ?_
  rintro e w1 ⟨rfl,h1⟩
  rw[p1]
  have KE:=(Blk.new wr 40 #[.string d.topic,.int .i64 d.index,.int .i64 d.time,.string d.key,.string d.body]).ext h1
  have hgw:=KM.out.lt
  have h2:=Ext.next (Ext.new (Below.refl wr.heap.size wr) _) h1
  replace he:=he.next h2;replace KM:=hU (KM.out.ext h2)
  clear h1 h2 c0 c1 c2 c3 c4
  obtain⟨q,hq⟩:∃ q,q=wr.heap.size:=⟨_,rfl⟩
  rw[<-hq] at KE hgw
  rw[<-hq]
  clear hq
  obtain⟨r0,f0⟩:=KE.rules
  have LK:=KM.out.look1 d.topic HT.out
  rw[cntF_get] at LK
  obtain⟨m,hm⟩:∃ m,m=cntT (l.take k) d.topic:=⟨_,rfl⟩
  rw[<-hm] at LK hc5
  have HMm:=hU hm
  rw[<-hm] at LA NX
  clear hm
  cases p2:((m:Int)==d.index)
  · have E:=hU (show fin=false by rw[F.out];exact Qd2 (k:=k) (by rw[LA.out,p1,p2];rfl) _ hlt)
    have n2:(d.index != (m:Int))=true:=by
     have:¬ ((m:Int)=d.index):=by simpa using p2
     simp;omega
    clear p2
    go_wp2_with fail
    go_ret
    exact⟨Qam E.out.symm,he⟩
  · have E:=hU (show Qed (Qqf l) (k+1)=true from Qe9 Hi.out (by rw[LA.out,p1,p2];rfl))
    have n2:(d.index != (m:Int))=false:=by
     have:(m:Int)=d.index:=by simpa using p2
     simp;omega
    clear p2
    go_wp2_with (at_mapUpdate;refine Qmn _ rfl _ _ _ rfl (g+1) k (m+1) d.topic (cntF (l.take k)) rfl KM.out (by unfold maxLen;omega) rfl (by rfl) HT.out (by omega) ?_)
    intro w2 hM2 hgr
    have he2:=Ext.mapGrown he hgr hg1
    rw[NX.out] at hM2
    have KM2:=hU hM2
    clear hM2 hgr KM he KE r0 f0 LK
    go_wp2_with fail
    go_roundw
    case rel=>exact⟨k+1,by omega,by go_num,E.out,KM2.out,he2⟩
    case measure=>simp[intOf];omega
def Qik (x:ByteArray):Bool:=decide (x.size<=300000)
def Qch (l:List ByteArray):Bool:=l.length==3&&l.all Qik
theorem Qcr(A:Option Addr)(c:Nat)(l:List ByteArray)(w:World)(hr:Qav w w.heap.size sone 1 A l)(hl:l.length<=1048576) :
 Calls Tryz.prog 56 #[.agg #[.slice A l.length c]] w fun e w'=>e=.returned (.bool (Qch l))/\Ext w w':=by
 have K0:=hU (Blk.new w 52 #[.slice A l.length c])
 have He:=hU (Ext.new (Below.refl w.heap.size w) (.cells #[.slice A l.length c] 52))
 have HR:=hU hr
 clear hr
 obtain⟨fin,hfin⟩:∃ fin,fin=Qch l:=⟨_,rfl⟩
 rw[<-hfin]
 have F:=hU hfin
 clear hfin
 obtain⟨kc,kf⟩:=K0.out.rules
 go_enter Tryz.func56,Tryz.ntmps56
 go_wp2_with fail
 obtain⟨g,hg⟩:∃ g,g=w.heap.size:=⟨_,rfl⟩
 have K1:=hU (show Blk _ g _ _ by rw[hg];exact K0.out)
 rw[<-hg]
 clear hg K0 kc kf
 go_loopw [8] (fun i wr=>∃ k:Nat,k<=l.length/\i=.int .i64 k/\(∀ x∈l.take k,Qik x=true)/\Ext w wr/\Blk wr g 52 #[.slice A l.length c]) (fun i _=>l.length-(intOf i).toNat)
 case atStart=>exact⟨0,Nat.zero_le _,rfl,by simp,He.out,K1.out⟩
 case round=>
  clear K1 He
  obtain⟨k,hk,rfl,hall,he,hB⟩:=hrel
  have HA:=hU hall;have KB:=hU hB
  obtain⟨kc,kf⟩:=hB.rules
  clear hall hB
  by_cases hlt:k<l.length
  case neg=>
   obtain rfl:k=l.length:=by omega
   have E:=hU (show fin=(l.length==3) by
    have h:=HA.out
    rw[List.take_length] at h
    rw[F.out,Qch,List.all_eq_true.2 h,Bool.and_true])
   cases q3:(l.length==3)
   · have q4:¬ (l.length:Int)=3:=by simp at q3;omega
     go_wp2_with fail
     go_ret
     exact⟨Qam (by rw[E.out,q3];simpa using q4),he⟩
   · have q4:(l.length:Int)=3:=by simp at q3;omega
     go_wp2_with fail
     go_ret
     exact⟨Qam (by rw[E.out,q3]),he⟩
  obtain⟨x,hx⟩:∃ x,l[k]?=some x:=⟨l[k],List.getElem?_eq_getElem hlt⟩
  obtain⟨b,off,rfl,hb,c0⟩:=Qdo (HR.out.ext he) hx
  have X:=hU hx
  clear hx
  by_cases hz:x.size<=300000
  case neg=>
   have E:=hU (show fin=false by
    rw[F.out,Qch,show l.all Qik=false by rw[List.all_eq_false];exact⟨x,List.mem_of_getElem? X.out,by simp[Qik];omega⟩,Bool.and_false])
   have hz2:(300000:Int)<(x.size:Int):=by omega
   go_wp2_with fail
   go_ret
   exact⟨Qam E.out.symm,he⟩
  have hz2:¬ (300000:Int)<(x.size:Int):=by omega
  have HA2:=hU (show ∀ y∈l.take (k+1),Qik y=true from fun y hy=>by
   obtain⟨hkl,hkd⟩:=List.getElem?_eq_some_iff.1 X.out
   rw[List.take_succ_eq_append_getElem hkl,List.mem_append] at hy
   rcases hy with hy|hy
   · exact HA.out y hy
   · obtain rfl:=List.mem_singleton.1 hy
     rw[hkd];simp[Qik];omega)
  go_wp2_with fail
  go_roundw
  case rel=>exact⟨k+1,by omega,by go_num,HA2.out,he,KB.out⟩
  case measure=>simp[intOf];omega
def Qbe (l:List ByteArray) (i:Nat):List ByteArray:=(unf (l.getD i ⟨#[]⟩)).1
def dmg1 (i:Nat) (x:ByteArray):List (Nat × Nat):=if(unf x).2<x.size then[(i,(unf x).2)] else[]
def dmgs:Nat->List ByteArray->List (Nat × Nat)
 | _,[]=>[]
 | i,x :: t=>dmg1 i x++dmgs (i+1) t
theorem Qti(l:List ByteArray)(x:ByteArray):∀ i,dmgs i (l++[x])=dmgs i l++dmg1 (i+l.length) x:=by
 induction l with
 | nil=>intro i;simp[dmgs]
 | cons a t ih=>intro i;simp only[List.cons_append,dmgs,ih,List.append_assoc,List.length_cons];rw[show i+1+t.length=i+(t.length+1) by omega]
def reB0 (n:Int) (l:List ByteArray):Qad:=⟨n,⟨(Qbe l 0).map rlD⟩,(Qbe l 2).map rrD,newH true n :: (Qbe l 1).map (hrD n),⟨⟨0,[]⟩,⟨0,[]⟩,hz⟩⟩
def reB (n:Int) (l:List ByteArray):Qad:={ reB0 n l with sealed:=Qbx n (Qa8 n (reB0 n l).log.entries) (Qbp n (reB0 n l).receipts) (Qaw (reB0 n l).heads) }
def Qdg (n:Int) (l:List ByteArray):Nat:=
 if !(inR n 1 32&&Qch l) then 1
 else if !((Qbe l 0).all Qc7&&Qgj (reB0 n l).log.entries) then 2
 else if !((Qbe l 2).all Qdf&&Qdx (reB0 n l).receipts) then 3
 else if !((Qbe l 1).all (Qer n)&&Qbu (reB0 n l)) then 4
 else 0


theorem Qq7(T:ByteArray):∀(f p:Nat),(Qeu T f p).1.length<=f
 | 0,p=>by simp[Qeu]
 | f+1,p=>by
   rw[Qeu]
   split
   · have:=Qq7 T f (fa3 T p).pos;simp;omega
   · simp
theorem Qwd(T:ByteArray):(unf T).1.length<=600:=by
 unfold unf
 split
 · exact Qq7 T 600 0
 · simp
theorem Qo3(T:ByteArray):∀(f p:Nat),∀ x∈(Qeu T f p).1,x.size<=T.size
 | 0,p=>by simp[Qeu]
 | f+1,p=>by
   rw[Qeu]
   split
   · intro x hx
     rcases List.mem_cons.1 hx with rfl|hx
     · unfold Qfs Qaq
       split
       · exact Nat.zero_le _
       · rw[ByteArray.size_extract];omega
     · exact Qo3 T f _ x hx
   · intro x hx;simp at hx
theorem unf_size(T:ByteArray):∀ x∈(unf T).1,x.size<=T.size:=by
 unfold unf
 split
 · exact Qo3 T 600 0
 · intro x hx;simp at hx
theorem Qq8(T:ByteArray):∀(f p:Nat),p<=T.size->(Qeu T f p).2<=T.size
 | 0,p=>fun h=>by simpa [Qeu] using h
 | f+1,p=>fun h=>by
   rw[Qeu]
   split
   · rename_i hk
     exact Qq8 T f _ (Qkx hk).2.1
   · exact h
theorem unf_end(T:ByteArray):(unf T).2<=T.size:=by
 unfold unf
 split
 · exact Qq8 T 600 0 (Nat.zero_le _)
 · exact Nat.zero_le _
theorem Qui:∀(l:List ByteArray) (i:Nat),(dmgs i l).length<=l.length
 | [],i=>Nat.le_refl _
 | x :: t,i=>by
   have h:=Qui t (i+1)
   have h1:(dmg1 i x).length<=1:=by unfold dmg1;split <;> simp
   simp only[dmgs,List.length_append,List.length_cons]
   omega
theorem Qny(l:List ByteArray)(i:Nat):(Qbe l i).length<=600:=Qwd _
theorem Qls{l:List ByteArray}(h:∀ x∈l,x.size<=1099511627776)(i:Nat):∀ x∈Qbe l i,x.size<=1099511627776:=by
 intro x hx
 refine Nat.le_trans (unf_size _ x hx) ?_
 rw[List.getD_eq_getElem?_getD]
 cases e:l[i]? with
 | none=>exact Nat.zero_le _
 | some y=>exact h y (List.mem_of_getElem? e)
set_option maxHeartbeats 1000000
theorem Qua(n:Int)(a b:ByteArray)(w:World)(ha:a.size<=1000)(hb:b.size<=1000):Calls Tryz.prog 267 #[.int .i64 n,.string a,.string b] w fun e w'=>e=.returned (.string (Qor n (a++b)))/\Ext w w':=by
 have hs:(a++b).size<=maxLen:=by rw[ByteArray.size_append];unfold maxLen;omega
 go_enter Tryz.func267,Tryz.ntmps267
 go_wp2_with fail
 refine(Qf3 n 1 (a++b) _ hs).mono ?_
 rintro e w1 ⟨rfl,h1⟩
 go_wp2_with fail
 go_ret
 exact⟨rfl,h1⟩
end Go.Proofs.YtbnkjgcpjeedfaaGreat

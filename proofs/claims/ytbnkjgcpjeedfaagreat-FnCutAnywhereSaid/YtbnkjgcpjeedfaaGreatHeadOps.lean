/-
  PadOf; SpecTop; SpecDigest; Eqs; HeadOps: No condition.
-/
import Derived.Test.YtbnkjgcpjeedfaaGreatMixIn
import Derived.Test.YtbnkjgcpjeedfaaGreatRowTx
import Derived.Laws.StructEq
namespace Go.Proofs.YtbnkjgcpjeedfaaGreat
set_option maxHeartbeats 2000000
set_option maxRecDepth 100000
set_option linter.unusedSimpArgs false
open Go.RowKit
set_option linter.unusedVariables false
def Qi8 (k:Nat):List Int:=128 :: List.replicate k 0
theorem Qu4(k:Nat):Qi8 k++[0]=Qi8 (k+1):=by simp[Qi8,List.replicate_succ']
def be8 (n:Nat):List Int:=[0,0,0,0,(n:Int) / 16777216,(n:Int) / 65536 % 256,(n:Int) / 256 % 256,(n:Int) % 256]
theorem be8_get(n k:Nat)(hk:k<8)(hn:n<=4000):(be8 n)[k]?=some (((n / 256 ^ (7-k):Nat):Int) % 256):=by
 have:k=0\/k=1\/k=2\/k=3\/k=4\/k=5\/k=6\/k=7:=by omega
 rcases this with rfl|rfl|rfl|rfl|rfl|rfl|rfl|rfl
 all_goals simp[be8];try omega
theorem be8_take(n k:Nat)(hk:k<8)(hn:n<=4000):(be8 n).take k++[((n / 256 ^ (7-k):Nat):Int) % 256]=(be8 n).take (k+1):=by
 have h:=be8_get n k hk hn
 have hl:k<(be8 n).length:=hk
 rw[List.getElem?_eq_getElem hl] at h
 rw[List.take_succ_eq_append_getElem hl]
 congr 1
 simpa using h.symm
theorem Qrn(k:Nat):Qc8 (List.replicate k 0)=Qpv k:=by simp[Qc8,Qpv]
theorem Qxl(n:Nat):Qc8 (Qi8 (padZ n)++be8 n)=padT n:=by
 have e1:Qc8 (Qi8 (padZ n))=⟨#[128]⟩++Qpv (padZ n):=by
  rw[show Qi8 (padZ n)=[128]++List.replicate (padZ n) 0 from rfl,Qhj,Qrn];rfl
 have e2:Qc8 (be8 n)=Qgh 0++Qgh (n:Int):=by
  rw[show be8 n=[0,0,0,0]++[(n:Int) / 16777216,(n:Int) / 65536 % 256,(n:Int) / 256 % 256,(n:Int) % 256] from rfl,Qhj];rfl
 rw[Qhj,e1,e2,padT]
 simp only[ByteArray.append_assoc]
theorem Qxk(n:Nat)(hn:n<=4000):∀ x∈Qi8 (padZ n)++be8 n,0<=x/\x<256:=by
 intro x hx
 rcases List.mem_append.1 hx with h|h
 · rcases List.mem_cons.1 h with rfl|h
   · omega
   · rw[(List.mem_replicate.1 h).2];omega
 · simp only[be8,List.mem_cons,List.not_mem_nil,or_false] at h
   rcases h with rfl|rfl|rfl|rfl|rfl|rfl|rfl|rfl <;> omega
def OwnB (B:Nat) (w:World) (v:Value) (n:Nat) (l:List Int):Prop:=w.ownsRow B 5 1 v n (Qec l)
theorem Qsh(n:Nat)(w:World)(hn:n<=4000) :
 Calls Tryz.prog 153 #[.int .i64 (n:Int)] w fun e w'=>e=.returned (.tuple #[.string (padT n),.bool true])/\Ext w w':=by
 obtain⟨i0,hi,hz0,hz1,hz2⟩:=info_parts Qqm
 have hin:inR (n:Int) 0 4000=true:=by simp[inR];omega
 go_enter Tryz.func153,Tryz.ntmps153
 go_wp2_with (go_at_call 107;refine(Qcd _ _ _ _).mono ?_;rintro e w' ⟨rfl,rfl⟩)
 obtain⟨B,hB⟩:∃ B,B=w.heap.size:=⟨_,rfl⟩
 have h00:OwnB w.heap.size (w.alloc (.cells #[.int .u8 128] 5)) (.slice (some ⟨w.heap.size,0,none⟩) 1 1) 1 (Qi8 0):=
  ⟨rfl,.inr ⟨w.heap.size,1,#[.int .u8 128],rfl,Nat.le_refl _,heap_alloc_new w _,Nat.le_refl _,by decide,rfl,rfl⟩⟩
 have H0:=hU h00
 have HE:=hU (Ext.new (Below.refl w.heap.size w) (.cells #[.int .u8 128] 5))
 rw[<-hB] at H0
 rw[<-hB]
 have Hb:w.heap.size<=B:=by omega
 have HB:=hU hB
 clear hB h00 hin
 go_loopw [4] (fun v wr=>∃ k:Nat,k<=padZ n/\OwnB B wr v (k+1) (Qi8 k)/\Ext w wr) (fun v _=>match v with|.slice _ m _=>padZ n+1-m|_=>0)
 case atStart=>exact⟨0,by omega,H0.out,HE.out⟩
 case round=>
  clear H0 HE
  obtain⟨k,hk,hown,he⟩:=hrel
  obtain⟨A,c,rfl,hnc⟩:=Qae hown
  have KO:=hU hown
  clear hown
  have hz:padZ n=(119-n % 64) % 64:=rfl
  by_cases hlt:k<padZ n
  · have hB2:B<=wr.heap.size:=by have:=he.size;have:=HB.out;omega
    have hne:(((n:Int)+((k:Int)+1)+8) % 64 != 0)=true:=by rw[bne_iff_ne];omega
    have hk64:k<=64:=by omega
    have Hn:=hU (show Qec (Qi8 k)++[.int .u8 0]=Qec (Qi8 (k+1)) by rw[Qlu,Qu4])
    have Hm:padZ n+1-(k+1+1)<padZ n+1-(k+1):=by omega
    clear hz hlt
    go_wp2_with (at_builtin;refine wpList_append_own _ rfl _ _ 22 rfl B 5 i0 (.int .u8 0) 1 1 Tryz.underlying22 hi hz0 hz1 hz2 rfl (by decide) _ _ _ rfl (KO.out.alloc _) ⟨wr.heap.size,0,none⟩ 1 1 [.int .u8 0] rfl rfl ?c1 ?c2 ?c3 ?c4 ?c5 ?_)
    case c1=>exact Qrm _ _ _
    case c2=>exact Qiy rfl
    case c3=>unfold maxLen;omega
    case c4=>omega
    case c5=>simp;omega
    intro v' w1 hown' hgrow _
    have he1:=Ext.ownGrown (Ext.new he _) (KO.out.alloc _) hgrow Hb
    rw[Hn.out] at hown'
    obtain⟨A',c',rfl,_⟩:=Qae hown'
    have KO':=hU hown'
    clear hown' hgrow KO he
    go_wp2_with fail
    go_roundw
    case rel=>exact⟨k+1,by omega,KO'.out,he1⟩
    case measure=>exact Hm
  · have hkz:k=padZ n:=by omega
    have hne:(((n:Int)+((k:Int)+1)+8) % 64 != 0)=false:=by
     have:((n:Int)+((k:Int)+1)+8) % 64=0:=by omega
     rw[this];rfl
    have hkn:k<=64:=by omega
    have H1:Hid (OwnB B wr (.slice A (k+1) c) (k+1+0) (Qi8 k++(be8 n).take 0)):=hU (by rw[List.take_zero,List.append_nil];exact KO.out)
    have HK:=hU hkz
    clear hkz KO hlt hz hk
    obtain⟨wo,rfl⟩:∃ wo:World,wo=wr:=⟨_,rfl⟩
    go_wp2_with fail
    go_loopw [4,5] (fun v x wr=>∃ j:Nat,j<=8/\x=.int .i64 (7-(j:Int))/\OwnB B wr v (k+1+j) (Qi8 k++(be8 n).take j)/\Ext w wr) (fun _ x _=>(intOf x+1).toNat)
    case atStart=>exact⟨0,by omega,by go_num,H1.out,he⟩
    case round=>
     clear H1 he
     obtain⟨j,hj,rfl,hown,he⟩:=hrel
     obtain⟨A',c',rfl,hnc'⟩:=Qae hown
     have KO:=hU hown
     clear hown
     by_cases hlt:j<8
     · have h7:(0:Int)<=7-(j:Int):=by omega
       have hB2:B<=wr.heap.size:=by have:=he.size;have:=HB.out;omega
       have H2:=hU (show n=n / 256 ^ 0 by simp)
       have hdg:decide ((0:Int)<=7-(j:Int))=true:=by rw[decide_eq_true_eq];omega
       go_wp2_with fail
       go_loop [6,7] (fun y x=>∃ q m:Nat,(q:Int)<=7-(j:Int)/\x=.int .i64 q/\y=.int .i64 m/\m<=4000/\Hid (m=n / 256 ^ q)) (fun _ x=>8-(intOf x).toNat)
       case atStart=>exact⟨0,n,by omega,rfl,rfl,hn,H2⟩
       case round=>
        obtain⟨q,m,hq,rfl,rfl,hm,em⟩:=hrel
        by_cases hlq:(q:Int)<7-(j:Int)
        · have E1:=hU (show m / 256=n / 256 ^ (q+1) by rw[em.out,Nat.div_div_eq_div_mul,<-Nat.pow_succ])
          have hdq:decide ((q:Int)<7-(j:Int))=true:=by rw[decide_eq_true_eq];omega
          go_wp2_with fail
          go_round
          case rel=>exact⟨q+1,m / 256,by omega,by go_num,by go_num,by omega,E1⟩
          case measure=>simp[intOf];omega
        · have hdq:decide ((q:Int)<7-(j:Int))=false:=by rw[decide_eq_false_iff_not];omega
          have hq7:q=7-j:=by omega
          have Hn:=hU (show Qec (Qi8 k++(be8 n).take j)++[.int .u8 ((m:Int) % 256)]=Qec (Qi8 k++(be8 n).take (j+1)) by
           rw[Qlu,List.append_assoc,em.out,hq7,be8_take n j hlt hn])
          have hk64:k<=64:=hkn
          clear hq7
          go_wp2_with (at_builtin;refine wpList_append_own _ rfl _ _ 22 rfl B 5 i0 (.int .u8 0) 1 1 Tryz.underlying22 hi hz0 hz1 hz2 rfl (by decide) _ _ _ rfl (KO.out.alloc _) ⟨wr.heap.size,0,none⟩ 1 1 [.int .u8 ((m:Int) % 256)] rfl rfl ?d1 ?d2 ?d3 ?d4 ?d5 ?_)
          case d2=>rfl
          case d3=>unfold maxLen;omega
          case d4=>omega
          case d5=>omega
          intro v' w1 hown' hgrow _
          have he1:=Ext.ownGrown (Ext.new he _) (KO.out.alloc _) hgrow Hb
          rw[Hn.out] at hown'
          obtain⟨A'',c'',rfl,_⟩:=Qae hown'
          have KO':=hU hown'
          clear hown' hgrow KO he
          go_wp2_with fail
          go_roundw
          case rel=>exact⟨j+1,by omega,by go_num,KO'.out,he1⟩
          case measure=>simp[intOf];omega
     · have hj8:j=8:=by omega
       have hdg:decide ((0:Int)<=7-(j:Int))=false:=by rw[decide_eq_false_iff_not];omega
       have hown:=KO.out
       rw[hj8,List.take_of_length_le (show(be8 n).length<=8 from Nat.le_refl _),HK.out] at hown
       have hconv:=Qix (n:=padZ n+1+8) (by simp[Qi8,be8]) hown (by omega) (Qxk n hn)
       rw[Qxl,<-HK.out] at hconv
       rw[show k+1+j=k+1+8 by omega]
       clear hown KO hj8
       go_wp2_with fail
       go_ret2
       exact⟨rfl,he⟩
def Qc9 (s:ByteArray):List Int:=s.data.toList.map fun c=>(c.toNat:Int)
theorem Qf2(s:ByteArray):(Qc9 s).length=s.size:=by rw[Qc9,List.length_map,Array.length_toList];rfl
theorem Qkn(a b:ByteArray):Qc9 (a++b)=Qc9 a++Qc9 b:=by simp[Qc9,ByteArray.data_append]
theorem Qkg(s:ByteArray):Qc8 (Qc9 s)=s:=by
 obtain⟨⟨l⟩⟩:=s
 simp only[Qc8,Qc9,List.map_map]
 congr 2
 conv=>rhs;rw[<-List.map_id l]
 apply List.map_congr_left
 intro c _
 simp
theorem Qpn(s:ByteArray):∀ x∈Qc9 s,0<=x/\x<256:=by
 intro x hx
 obtain⟨c,_,rfl⟩:=List.mem_map.1 hx
 have:=c.toNat_lt
 omega
theorem Ql7(a b:List Int):Qec (a++b)=Qec a++Qec b:=by simp[Qec]
theorem Qpo{s:ByteArray}{j:Nat}(h:j<s.size):(Qec (Qc9 s))[j]?=some (.int .u8 (s[j].toNat:Int)):=by
 have h':j<s.data.toList.length:=by simpa using h
 simp only[Qec,Qc9,List.getElem?_map,List.getElem?_eq_getElem h',Option.map_some]
 rfl
theorem Qsa(l:List Int):∀ u∈Qec l,u.oneCell'=true:=by
 intro u hu
 obtain⟨x,_,rfl⟩:=List.mem_map.1 hu
 rfl
theorem Qoo(A:Option Addr)(c:Nat)(l:List Int)(w:World)(hr:Qav w w.heap.size Qgm 1 A l)(h32:W32 l)(hl:l.length<=1000)(hl0:0<l.length) :
 Calls Tryz.prog 219 #[.slice A l.length c] w fun e w'=>e=.returned (.tuple #[.string (Qd5 l),.bool true])/\Ext w w':=by
 obtain⟨i0,hinf,hz0,hz1,hz2⟩:=info_parts Qqm
 obtain⟨g,off,rfl,hg,hc⟩:=hr.2 hl0
 rw[Qlg] at hc
 have Hc:=hU hc
 clear hc hr
 have H0:=hU (Qbd w 5 1)
 have He:=hU (Ext.new (Below.refl w.heap.size w) (.cells #[] 5))
 go_enter Tryz.func219,Tryz.ntmps219
 go_wp2_with fail
 obtain⟨B,hB⟩:∃ B,B=w.heap.size:=⟨_,rfl⟩
 rw[<-hB] at H0 hg
 rw[<-hB]
 have Hb:w.heap.size<=B:=by omega
 have HB:=hU hB
 clear hB
 go_loopw [4,5] (fun v x wr=>∃ k:Nat,k<=l.length/\x=.int .i64 k/\OwnB B wr v (4*k) (Qc9 (Qd5 (l.take k)))/\Ext w wr) (fun _ x _=>l.length-(intOf x).toNat)
 case atStart=>exact⟨0,Nat.zero_le _,rfl,H0.out,He.out⟩
 case round=>
  clear H0 He
  obtain⟨k,hk,rfl,hown,he⟩:=hrel
  obtain⟨A',c',rfl,hnc⟩:=Qae hown
  have KO:=hU hown
  clear hown
  by_cases hlt:k<l.length
  · have hdk:decide ((k:Int)<(l.length:Int))=true:=by rw[decide_eq_true_eq];omega
    have c0:wr.cell? ⟨g,off+k,none⟩=some (.int .u32 (gw l k)):=(he.cell (p:=⟨g,off+k,none⟩) (by rw[<-HB.out];exact hg)).trans (Hc.out k _ (Qj1 hlt))
    obtain⟨h0,h1⟩:=Qx1 h32 k
    have hdl:l[k]?=some (gw l k):=Quf hlt
    have hsn:Qd5 (l.take (k+1))=Qd5 (l.take k)++Qgh (gw l k):=by
     rw[List.take_succ_eq_append_getElem hlt,Qlh]
     have:l[k]=gw l k:=by rw[List.getElem?_eq_getElem hlt] at hdl;simpa using hdl
     rw[this]
    obtain⟨x,hx⟩:∃ x,x=gw l k:=⟨_,rfl⟩
    rw[<-hx] at c0 h0 h1 hsn
    have Hn:Hid (Qec (Qc9 (Qd5 (l.take k)))++Qec (Qc9 (Qgh x))=Qec (Qc9 (Qd5 (l.take (k+1))))):=hU (by rw[<-Ql7,<-Qkn,hsn])
    clear hx hsn hdl
    go_wp2_with fail
    refine(Ql9 x _ h0 h1).mono ?_
    rintro e w1 ⟨rfl,e1⟩
    have he1:=he.next e1
    have KO1:=hU (Qag KO.out e1)
    obtain⟨cap,w2,hrun,e2,hcell⟩:=Qp0 (P:=Tryz.prog) (Qgh x) Tryz.underlying9 Tryz.underlying22 Tryz.underlying5 w1
    rw[Qgy] at hrun
    have he2:=he1.next e2
    have KO2:=hU (Qag KO1.out e2)
    have hnews:Hid (∀ j u,(Qec (Qc9 (Qgh x)))[j]?=some u->w2.cell? ((⟨w1.heap.size,0,none⟩:Addr).add j)=some u):=hU (by
     intro j u hu
     have hj:j<(Qgh x).size:=by
      have:=(List.getElem?_eq_some_iff.1 hu).1
      rwa [Qk3,Qf2] at this
     rw[Qpo hj] at hu
     rw[Qhw,Nat.zero_add,hcell j hj,hu])
    have hB2:B<=w2.heap.size:=by have:=he2.size;have:=HB.out;omega
    clear c0 he e1 KO KO1 he1 e2 hcell
    go_wp2_with (at_builtin;refine wpList_append_own _ rfl _ _ 22 rfl B 5 i0 (.int .u8 0) 1 1 Tryz.underlying22 hinf hz0 hz1 hz2 rfl (by decide) _ _ _ rfl KO2.out ⟨w1.heap.size,0,none⟩ 4 cap (Qec (Qc9 (Qgh x))) rfl ?c0 ?c1 ?c2 ?c3 ?c4 ?c5 ?_)
    case c0=>rw[Qk3,Qf2,Qgy]
    case c1=>exact hnews.out
    case c2=>exact Qsa _
    case c3=>unfold maxLen;omega
    case c4=>omega
    case c5=>exact hB2
    intro v' w3 hown' hgrow _
    have he3:=Ext.ownGrown he2 KO2.out hgrow Hb
    rw[Hn.out] at hown'
    have KO':=hU (show OwnB B w3 v' (4*(k+1)) (Qc9 (Qd5 (l.take (k+1)))) from hown')
    clear hown' hgrow KO2 he2 hnews hrun
    go_wp2_with fail
    go_roundw
    case rel=>exact⟨k+1,by omega,by go_num,KO'.out,he3⟩
    case measure=>simp[intOf];omega
  · have hkl:k=l.length:=by omega
    have hdk:decide ((k:Int)<(l.length:Int))=false:=by rw[decide_eq_false_iff_not];omega
    have hown:=KO.out
    rw[List.take_of_length_le (by omega)] at hown
    have hconv:=Qix (n:=4*k) (by rw[Qf2,Qf1,hkl]) hown (by omega) (Qpn _)
    rw[Qkg] at hconv
    clear hown KO hkl
    go_wp2_with fail
    go_ret2
    exact⟨rfl,he⟩
theorem Qms(A:Option Addr)(c:Nat)(l:List Int)(w:World)(hr:Qav w w.heap.size Qgm 1 A l)(h32:W32 l)(hl:l.length=8) :
 Calls Tryz.prog 219 #[.slice A 8 c] w fun e w'=>e=.returned (.tuple #[.string (Qd5 l),.bool true])/\Ext w w':=by
 have:=Qoo A c l w hr h32 (by omega) (by omega)
 rw[hl] at this
 exact this
theorem Qrw(n:Int)(A:Option Addr)(c:Nat)(s:List Int)(w:World)(hr:Qav w w.heap.size Qgm 1 A s)(hs:s.length=8)(ws:W32 s)(h0:1<=n)(h1:n<=32) :
 Calls Tryz.prog 154 #[.int .i64 n,.slice A 8 c] w fun e w'=>e=.returned (.string ((Qd5 s).extract 0 n.toNat))/\Ext w w':=by
 have hsz:(Qd5 s).size=32:=by rw[Qf1,hs]
 obtain⟨T,hT⟩:∃ T,T=Qd5 s:=⟨_,rfl⟩
 rw[<-hT] at hsz
 rw[<-hT]
 have HT:=hU hT
 clear hT
 obtain⟨m,rfl⟩:=Int.eq_ofNat_of_zero_le (show 0<=n by omega)
 rw[Int.toNat_natCast]
 have hm:m<=T.size:=by omega
 have hm2:(m:Int)<=(T.size:Int):=by omega
 go_enter Tryz.func154,Tryz.ntmps154
 go_wp2_with fail
 refine(Qms A c s _ hr ws hs).mono ?_
 rintro e w1 ⟨he1,h1⟩
 rw[<-HT.out] at he1
 subst he1
 go_wp2_with fail
 go_ret
 exact⟨rfl,h1⟩
theorem Qml(T:ByteArray)(a b j:Nat)(h:a+j<b)(hb:b<=T.size):byt (T.extract a b) j=byt T (a+j):=by
 unfold byt
 have h0:a+j<T.size:=by omega
 have h1:j<(T.extract a b).size:=by rw[ByteArray.size_extract];omega
 rw[dif_pos h0,dif_pos h1,ByteArray.getElem_extract]
theorem Qsl(T:ByteArray)(a:Nat)(h:a+64<=T.size):Qgz (T.extract a (a+64)) 16=Qgg T a:=by
 unfold Qgz Qgg
 apply List.map_congr_left
 intro i hi
 have hi':i<16:=by simpa using hi
 simp only[Qf6]
 rw[Qml _ _ _ _ (by omega) h,Qml _ _ _ _ (by omega) h,Qml _ _ _ _ (by omega) h,Qml _ _ _ _ (by omega) h]
 simp only[Nat.add_assoc]
theorem Qpt{W w:World}{v:Value}{l:List Int}(h:OwnW W w v l):∃ A c,v=.slice A l.length c/\Qav w w.heap.size Qgm 1 A l:=by
 obtain⟨A,c,rfl,_⟩:=Qae h
 refine⟨A,c,rfl,?_⟩
 unfold Qav
 rw[Qlg]
 exact Qbb.of_own h
def Qji (w:World) (v:Value) (l:List Int):Prop:=∃ A c,v=.slice A 8 c/\Qav w w.heap.size Qgm 1 A l
theorem Qji.of_own{W w:World}{v:Value}{l:List Int}(h:OwnW W w v l)(hl:l.length=8):Qji w v l:=by
 obtain⟨A,c,hv,hr⟩:=Qpt h
 rw[hl] at hv
 exact⟨A,c,hv,hr⟩
theorem Qrv(v:Value)(s:List Int)(T:ByteArray)(w:World)(hs:s.length=8)(ws:W32 s)(hv:Qji w v s)(hT:T.size<=1048576) :
 Calls Tryz.prog 155 #[v,.string T] w fun e w'=>∃ v',e=.returned v'/\Qji w' v' (mixT T s (T.size / 64))/\Ext w w':=by
 obtain⟨A,c,rfl,hr⟩:=hv
 go_enter Tryz.func155,Tryz.ntmps155
 go_wp2_with fail
 go_loopw [0,5] (fun v x wr=>∃ k:Nat,64*k<=T.size/\x=.int .i64 (64*(k:Int))/\Qji wr v (mixT T s k)/\Ext w wr) (fun _ x _=>T.size-(intOf x).toNat)
 case atStart=>exact⟨0,by omega,rfl,⟨A,c,rfl,hr⟩,Below.refl _ _⟩
 case round=>
  clear hr
  obtain⟨k,hk,rfl,⟨A',c',rfl,hr⟩,he⟩:=hrel
  have KR:=hU hr
  clear hr
  by_cases hlt:64*k+64<=T.size
  · have hdk:decide (64*(k:Int)+64<=(T.size:Int))=true:=by rw[decide_eq_true_eq];omega
    have hle1:64*(k:Int)<=64*(k:Int)+64:=by omega
    have hle2:64*(k:Int)+64<=(T.size:Int):=by omega
    have n1:(64*(k:Int)).toNat=64*k:=by omega
    have n2:(64*(k:Int)+64).toNat=64*k+64:=by omega
    obtain⟨P,hP⟩:∃ P,P=T.extract (64*k) (64*k+64):=⟨_,rfl⟩
    have HPs:Hid (P.size=4*16):=hU (by rw[hP,ByteArray.size_extract];omega)
    have HPw:Hid (Qgz P 16=Qgg T (64*k)):=hU (by rw[hP,Qsl T (64*k) hlt])
    have HP:=hU hP
    clear hP
    go_wp2_with fail
    rw[<-HP.out]
    refine(Qtn P 16 _ HPs.out (by have:=HPs.out;omega)).mono ?_
    rintro e w1 ⟨vb,rfl,ob,e1⟩
    rw[HPw.out] at ob
    obtain⟨Ab,cb,rfl,rb⟩:=Qpt ob
    rw[Qps]
    have KB:=hU rb
    have KR1:=hU (KR.out.ext e1)
    have he1:=he.next e1
    clear ob rb KR he e1
    go_wp2_with fail
    refine(Qyk A' Ab c' cb (mixT T s k) (Qgg T (64*k)) _ (by rw[Qgn,hs]) (Qps _ _) (Qna T ws k) (Qsc _ _) KR1.out KB.out).mono ?_
    rintro e w2 ⟨vm,rfl,om,e2⟩
    have KS:=hU (show Qji w2 vm (mixT T s (k+1)) from Qji.of_own om (by rw[Qgn,hs]))
    have he2:=he1.next e2
    clear om e2 he1 KR1 KB
    go_wp2_with fail
    go_roundw
    case rel=>exact⟨k+1,by omega,by go_num,KS.out,he2⟩
    case measure=>simp[intOf];omega
  · have hdk:decide (64*(k:Int)+64<=(T.size:Int))=false:=by rw[decide_eq_false_iff_not];omega
    have hkk:k=T.size / 64:=by omega
    have HS:Hid (Qji wr (.slice A' 8 c') (mixT T s (T.size / 64))):=hU (by rw[<-hkk];exact⟨A',c',rfl,KR.out⟩)
    clear hkk KR
    go_wp2_with fail
    go_ret
    exact⟨_,rfl,HS.out,he⟩
set_option maxHeartbeats 1000000
theorem Qvx(tag:Int)(w:World)(h:inR tag 0 255=false) :
 Calls Tryz.prog 152 #[.int .i64 tag] w fun e w'=>e=.returned (.tuple #[.slice (some ⟨w.heap.size,0,none⟩) 0 0,.bool false])/\Ext w w':=by
 have He:=hU (Ext.new (Below.refl w.heap.size w) (.cells #[] 194))
 go_enter Tryz.func152,Tryz.ntmps152
 go_wp2_with (go_at_call 107;refine(Qcd _ _ _ _).mono ?_;rintro e w' ⟨rfl,rfl⟩)
 go_ret2
 exact⟨rfl,He.out⟩
theorem PadOf_no(n:Int)(w:World)(h:inR n 0 4000=false) :
 Calls Tryz.prog 153 #[.int .i64 n] w fun e w'=>e=.returned (.tuple #[.string ⟨#[]⟩,.bool false])/\Ext w w':=by
 go_enter Tryz.func153,Tryz.ntmps153
 go_wp2_with (go_at_call 107;refine(Qcd _ _ _ _).mono ?_;rintro e w' ⟨rfl,rfl⟩)
 go_ret2
 exact⟨rfl,Below.refl _ _⟩
def StartRes (W w:World) (v:Value) (tag:Int):Prop:=inR tag 0 255=true->OwnW W w v (Qen tag)
theorem Qtr(tag:Int)(w:World):Calls Tryz.prog 152 #[.int .i64 tag] w fun e w'=>∃ v,e=.returned (.tuple #[v,.bool (inR tag 0 255)])/\StartRes w w' v tag/\Ext w w':=by
 cases h:inR tag 0 255
 · refine(Qvx tag w h).mono ?_
   rintro e w' ⟨rfl,he⟩
   exact⟨_,rfl,(fun h'=>by rw[h] at h';cases h'),he⟩
 · refine(Qod tag w h).mono ?_
   rintro e w' ⟨v,rfl,ho,he⟩
   exact⟨v,rfl,fun _=>ho,he⟩
def padS (n:Nat):ByteArray:=if n<=4000 then padT n else⟨#[]⟩
theorem Qyj(n:Nat)(w:World):Calls Tryz.prog 153 #[.int .i64 (n:Int)] w fun e w'=>e=.returned (.tuple #[.string (padS n),.bool (decide (n<=4000))])/\Ext w w':=by
 by_cases h:n<=4000
 · refine(Qsh n w h).mono ?_
   rintro e w' ⟨rfl,he⟩
   exact⟨by rw[padS,if_pos h,decide_eq_true h],he⟩
 · refine(PadOf_no n w (by simp[inR];omega)).mono ?_
   rintro e w' ⟨rfl,he⟩
   exact⟨by rw[padS,if_neg h,decide_eq_false h],he⟩
theorem Qdv(width tag:Int)(T:ByteArray)(w:World)(hT:T.size<=maxLen) :
 Calls Tryz.prog 91 #[.int .i64 width,.int .i64 tag,.string T] w fun e w'=>e=.returned (.tuple #[.string (Qcy width tag T),.bool (Qbr width tag T)])/\Ext w w':=by
 unfold maxLen at hT
 cases hok:Qbr width tag T
 · have Ho:=hU hok
   rw[Qkz hok]
   have h3:∃ b1 b2 b3,b1=inR width 1 32/\b2=inR tag 0 255/\b3=decide (T.size<=4000)/\(b1&&b2&&b3)=false:=⟨_,_,_,rfl,rfl,rfl,hok⟩
   obtain⟨b1,b2,b3,e1,e2,e3,hb⟩:=h3
   clear hok
   cases b1 <;> cases b2 <;> cases b3
   all_goals first|(exfalso;simp at hb;done)|skip
   all_goals
    have hw:=e1.symm
    have E2:=hU e2
    have E3:=hU e3
    clear e1 e2 e3 hb
    go_enter Tryz.func91,Tryz.ntmps91
    go_wp2_with fail
    refine(Qtr tag _).mono ?_
    rintro e w1 ⟨v,rfl,_,he⟩
    rw[<-E2.out]
    go_wp2_with fail
    refine(Qyj _ _).mono ?_
    rintro e w2 ⟨rfl,h1⟩
    replace he:=he.next h1;clear h1
    rw[<-E3.out]
    go_wp2_with (go_at_call 89;refine(Qgo _ _).mono ?_;rintro e w' ⟨rfl,rfl⟩)
    go_ret2
    exact⟨rfl,he⟩
 · have hok':=hok
   simp only[Qbr,Bool.and_eq_true,decide_eq_true_eq] at hok'
   obtain⟨⟨b1,b2⟩,b3⟩:=hok'
   obtain⟨lw0,lw1⟩:=Qa0 b1
   rw[Qpq hok]
   have Hf:=hU (show Qil width.toNat tag T=(Qd5 (mixT (T++padT T.size) (Qen tag) ((T.size+(padT T.size).size) / 64))).extract 0 width.toNat by rw[Qil,ByteArray.size_append])
   have hps:(padT T.size).size<=73:=by rw[Qrk];unfold padZ;omega
   clear hok
   obtain⟨fin,hfin⟩:∃ fin,fin=Qil width.toNat tag T:=⟨_,rfl⟩
   rw[<-hfin]
   rw[<-hfin] at Hf
   clear hfin
   go_enter Tryz.func91,Tryz.ntmps91
   go_wp2_with fail
   refine(Qod tag _ b2).mono ?_
   rintro e w1 ⟨v,rfl,ho,he⟩
   have KS:=hU (Qji.of_own ho (Qdb tag))
   clear ho
   go_wp2_with fail
   refine(Qsh T.size _ b3).mono ?_
   rintro e w2 ⟨rfl,h1⟩
   replace he:=he.next h1
   have KS2:Hid (Qji w2 v (Qen tag)):=by
    obtain⟨A,c,hv,hr⟩:=KS.out
    exact hU ⟨A,c,hv,hr.ext h1⟩
   clear h1 KS
   go_wp2_with (go_at_call 89;refine(Qgo _ _).mono ?_;rintro e w' ⟨rfl,rfl⟩)
   refine(Qrv v (Qen tag) (T++padT T.size) _ (Qdb tag) (Qj6 tag) KS2.out (by rw[ByteArray.size_append];omega)).mono ?_
   rintro e w3 ⟨v',rfl,hs,h1⟩
   replace he:=he.next h1
   obtain⟨A,c,rfl,hr⟩:=hs
   rw[ByteArray.size_append] at hr
   have KR:=hU hr
   clear h1 hr KS2
   go_wp2_with fail
   refine(Qrw width A c _ _ KR.out (by rw[Qgn,Qdb]) (Qna _ (Qj6 tag) _) lw0 lw1).mono ?_
   rintro e w4 ⟨rfl,h1⟩
   replace he:=he.next h1;clear h1
   rw[<-Hf.out]
   go_wp2_with fail
   go_ret2
   exact⟨rfl,he⟩
theorem Qyd{a b:ByteArray}(h:a.toList=b.toList):a=b:=by
 rw[ByteArray.toList_eq,ByteArray.toList_eq] at h
 obtain⟨⟨x⟩⟩:=a
 obtain⟨⟨y⟩⟩:=b
 have h:x=y:=h
 rw[h]
theorem Qfn{a b:ByteArray}:a.toList=b.toList↔a=b:=⟨Qyd,fun h=>by rw[h]⟩
def Qaf.eqb (d e:Qaf):Bool:=(d.topic.toList==e.topic.toList)&&(d.index==e.index)&&(d.time==e.time)&&(d.key.toList==e.key.toList)&&(d.body.toList==e.body.toList)
theorem Qaf.eqb_iff(d e:Qaf):d.eqb e=true↔d=e:=by
 obtain⟨a0,a1,a2,a3,a4⟩:=d
 obtain⟨b0,b1,b2,b3,b4⟩:=e
 simp only[Qaf.eqb,Bool.and_eq_true,beq_iff_eq,Qfn,Qaf.mk.injEq,and_assoc]
theorem Qaf.eqb_self(d:Qaf):d.eqb d=true:=(Qaf.eqb_iff d d).2 rfl
def Qab.eqb (d e:Qab):Bool:=(d.reader.toList==e.reader.toList)&&(d.topic.toList==e.topic.toList)&&(d.index==e.index)
theorem Qab.eqb_iff(d e:Qab):d.eqb e=true↔d=e:=by
 obtain⟨a0,a1,a2⟩:=d
 obtain⟨b0,b1,b2⟩:=e
 simp only[Qab.eqb,Bool.and_eq_true,beq_iff_eq,Qfn,Qab.mk.injEq,and_assoc]
theorem Qab.eqb_self(d:Qab):d.eqb d=true:=(Qab.eqb_iff d d).2 rfl
theorem Qab.run_eql(d e:Qab)(w:World):(binOp .eql 42 (.agg #[.string d.reader,.string d.topic,.int .i64 d.index]) (.agg #[.string e.reader,.string e.topic,.int .i64 e.index])).run Tryz.prog w=.ok (.bool (d.eqb e)) w:=by
 go_simp
 unfold Qab.eqb
 (repeat' split) <;> simp[*]
def Qak.eqb (d e:Qak):Bool:=(d.number==e.number)&&(d.size==e.size)&&(d.root.toList==e.root.toList)&&(d.taken==e.taken)&&(d.takenRoot.toList==e.takenRoot.toList)
theorem Qak.eqb_iff(d e:Qak):d.eqb e=true↔d=e:=by
 obtain⟨a0,a1,a2,a3,a4⟩:=d
 obtain⟨b0,b1,b2,b3,b4⟩:=e
 simp only[Qak.eqb,Bool.and_eq_true,beq_iff_eq,Qfn,Qak.mk.injEq,and_assoc]
theorem Qak.eqb_self(d:Qak):d.eqb d=true:=(Qak.eqb_iff d d).2 rfl
theorem Qak.run_eql(d e:Qak)(w:World):(binOp .eql 33 (.agg #[.int .i64 d.number,.int .i64 d.size,.string d.root,.int .i64 d.taken,.string d.takenRoot]) (.agg #[.int .i64 e.number,.int .i64 e.size,.string e.root,.int .i64 e.taken,.string e.takenRoot])).run Tryz.prog w=.ok (.bool (d.eqb e)) w:=by
 go_simp
 unfold Qak.eqb
 (repeat' split) <;> simp[*]
theorem Qak.run_neq(d e:Qak)(w:World):(binOp .neq 33 (.agg #[.int .i64 d.number,.int .i64 d.size,.string d.root,.int .i64 d.taken,.string d.takenRoot]) (.agg #[.int .i64 e.number,.int .i64 e.size,.string e.root,.int .i64 e.taken,.string e.takenRoot])).run Tryz.prog w=.ok (.bool (!(d.eqb e))) w:=by
 go_simp
 unfold Qak.eqb
 (repeat' split) <;> simp[*]
def Qcg (n:Int):ByteArray:=Qcy n 5 ⟨#[]⟩
theorem Qn1(n:Int):Qbr n 5 ⟨#[]⟩=inR n 1 32:=by
 have h1:inR 5 0 255=true:=rfl
 have h2:decide ((⟨#[]⟩:ByteArray).size<=4000)=true:=rfl
 simp only[Qbr,h1,h2,Bool.and_true]
theorem Qdq(n:Int)(w:World):Calls Tryz.prog 136 #[.int .i64 n] w fun e w'=>e=.returned (.tuple #[.string (Qcg n),.bool (inR n 1 32)])/\Ext w w':=by
 go_enter Tryz.func136,Tryz.ntmps136
 go_wp2_with fail
 refine(Qdv n 5 ⟨#[]⟩ _ (by decide)).mono ?_
 rintro e w1 ⟨rfl,h1⟩
 rw[Qn1]
 go_wp2_with fail
 go_ret2
 exact⟨rfl,h1⟩
theorem Qq1(n:Int)(w:World):Calls Tryz.prog 239 #[.int .i64 n] w fun e w'=>e=.returned (.tuple #[.string (Qcg n),.bool (inR n 1 32)])/\Ext w w':=by
 go_enter Tryz.func239,Tryz.ntmps239
 go_wp2_with fail
 refine(Qf3 n 5 ⟨#[]⟩ _ (by decide)).mono ?_
 rintro e w1 ⟨rfl,h1⟩
 rw[Qn1]
 go_wp2_with fail
 go_ret2
 exact⟨rfl,h1⟩
theorem Qhq(n:Int)(w:World):Calls Tryz.prog 192 #[.int .i64 n] w fun e w'=>e=.returned (.string (Qcg n))/\Ext w w':=by
 go_enter Tryz.func192,Tryz.ntmps192
 go_wp2_with fail
 refine(Qq1 n _).mono ?_
 rintro e w1 ⟨rfl,h1⟩
 go_wp2_with fail
 go_ret
 exact⟨rfl,h1⟩
theorem Qi3(n:Int)(w:World):Calls Tryz.prog 212 #[.int .i64 n] w fun e w'=>e=.returned (.bool (inR n 0 512))/\w=w':=by
 go_enter Tryz.func212,Tryz.ntmps212
 go_wp2_with (go_at_call 108;refine(Qba _ _ _ _).mono ?_;rintro e w' ⟨rfl,rfl⟩)
 go_ret
 exact⟨rfl,rfl⟩
theorem Qe3(n:Int)(w:World):Calls Tryz.prog 137 #[.int .i64 n] w fun e w'=>e=.returned (.bool (inR n 0 512))/\w=w':=by
 go_enter Tryz.func137,Tryz.ntmps137
 go_wp2_with (go_at_call 107;refine(Qcd _ _ _ _).mono ?_;rintro e w' ⟨rfl,rfl⟩)
 go_ret
 exact⟨rfl,rfl⟩
def Qfg (n s:Int) (r:ByteArray):Bool:=inR s 0 512&&((r.size:Int)==n)&&(decide (0<s)||(r.toList==(Qcg n).toList))
def Qbc (n:Int) (h:Qak):Bool:=inR n 1 32&&inR h.number 0 399&&Qfg n h.size h.root&&Qfg n h.taken h.takenRoot
theorem Qlk(n s:Int)(r:ByteArray)(w:World):Calls Tryz.prog 140 #[.int .i64 n,.int .i64 s,.string r] w fun e w'=>e=.returned (.bool (Qfg n s r))/\Ext w w':=by
 cases b1:inR s 0 512
 · have E:=hU (show Qfg n s r=false by simp[Qfg,b1])
   go_enter Tryz.func140,Tryz.ntmps140
   go_wp2_with (go_at_call 212;refine(Qi3 _ _).mono ?_;rintro e w' ⟨rfl,rfl⟩)
   go_ret
   exact⟨Qam E.out.symm,Below.refl _ _⟩
 cases b2:((r.size:Int)==n)
 · have E:=hU (show Qfg n s r=false by simp[Qfg,b2])
   have b2':((r.size:Int) != n)=true:=by rw[bne,b2];rfl
   go_enter Tryz.func140,Tryz.ntmps140
   go_wp2_with (go_at_call 212;refine(Qi3 _ _).mono ?_;rintro e w' ⟨rfl,rfl⟩)
   go_ret
   exact⟨Qam E.out.symm,Below.refl _ _⟩
 have b2':((r.size:Int) != n)=false:=by rw[bne,b2];rfl
 by_cases b3:0<s
 · have E:=hU (show Qfg n s r=true by simp[Qfg,b1,b2,b3])
   have b3':decide (0<s)=true:=decide_eq_true b3
   go_enter Tryz.func140,Tryz.ntmps140
   go_wp2_with (go_at_call 212;refine(Qi3 _ _).mono ?_;rintro e w' ⟨rfl,rfl⟩)
   go_ret
   exact⟨Qam E.out.symm,Below.refl _ _⟩
 have b3':decide (0<s)=false:=decide_eq_false b3
 have E:=hU (show Qfg n s r=(r.toList==(Qcg n).toList) by simp only[Qfg,b1,b2,b3',Bool.true_and,Bool.false_or])
 go_enter Tryz.func140,Tryz.ntmps140
 go_wp2_with (first|(go_at_call 212;refine(Qi3 _ _).mono ?_;rintro e w' ⟨rfl,rfl⟩))
 refine(Qhq n _).mono ?_
 rintro e w1 ⟨rfl,h1⟩
 go_wp2_with fail
 go_ret
 exact⟨Qam E.out.symm,h1⟩
theorem Qbf(n:Int)(h:Qak)(w:World):Calls Tryz.prog 78 #[.int .i64 n,.agg #[.int .i64 h.number,.int .i64 h.size,.string h.root,.int .i64 h.taken,.string h.takenRoot]] w fun e w'=>e=.returned (.bool (Qbc n h))/\Ext w w':=by
 have K0:=Blk.new w 33 #[.int .i64 h.number,.int .i64 h.size,.string h.root,.int .i64 h.taken,.string h.takenRoot]
 have he:=Ext.new (Below.refl w.heap.size w) (.cells #[.int .i64 h.number,.int .i64 h.size,.string h.root,.int .i64 h.taken,.string h.takenRoot] 33)
 obtain⟨r0,m0⟩:=K0.rules
 cases b1:inR n 1 32
 · have E:=hU (show Qbc n h=false by simp[Qbc,b1])
   go_enter Tryz.func78,Tryz.ntmps78
   go_wp2_with (first|(go_at_call 55;refine(Qbn _ _).mono ?_;rintro e w' ⟨rfl,rfl⟩)|(go_at_call 108;refine(Qba _ _ _ _).mono ?_;rintro e w' ⟨rfl,rfl⟩))
   go_ret
   exact⟨Qam E.out.symm,he⟩
 cases b2:inR h.number 0 399
 · have E:=hU (show Qbc n h=false by simp[Qbc,b2])
   go_enter Tryz.func78,Tryz.ntmps78
   go_wp2_with (first|(go_at_call 55;refine(Qbn _ _).mono ?_;rintro e w' ⟨rfl,rfl⟩)|(go_at_call 108;refine(Qba _ _ _ _).mono ?_;rintro e w' ⟨rfl,rfl⟩))
   go_ret
   exact⟨Qam E.out.symm,he⟩
 cases b3:Qfg n h.size h.root
 · have E:=hU (show Qbc n h=false by simp[Qbc,b3])
   go_enter Tryz.func78,Tryz.ntmps78
   go_wp2_with (first|(go_at_call 55;refine(Qbn _ _).mono ?_;rintro e w' ⟨rfl,rfl⟩)|(go_at_call 108;refine(Qba _ _ _ _).mono ?_;rintro e w' ⟨rfl,rfl⟩))
   refine(Qlk n h.size h.root _).mono ?_
   rintro e w1 ⟨rfl,h1⟩
   replace he:=he.next h1;replace K0:=K0.ext h1;clear r0 m0 h1
   obtain⟨r0,m0⟩:=K0.rules
   go_wp2_with fail
   go_ret
   exact⟨Qam E.out.symm,he⟩
 have E:=hU (show Qbc n h=Qfg n h.taken h.takenRoot by simp only[Qbc,b1,b2,b3,Bool.true_and])
 go_enter Tryz.func78,Tryz.ntmps78
 go_wp2_with (first|(go_at_call 55;refine(Qbn _ _).mono ?_;rintro e w' ⟨rfl,rfl⟩)|(go_at_call 108;refine(Qba _ _ _ _).mono ?_;rintro e w' ⟨rfl,rfl⟩))
 obtain⟨g,hg⟩:∃ g,g=w.heap.size:=⟨_,rfl⟩
 rw[<-hg] at K0
 rw[<-hg]
 clear hg r0 m0
 refine(Qlk n h.size h.root _).mono ?_
 rintro e w1 ⟨rfl,h1⟩
 replace he:=he.next h1;replace K0:=K0.ext h1;clear h1
 obtain⟨r0,m0⟩:=K0.rules
 go_wp2_with fail
 refine(Qlk n h.taken h.takenRoot _).mono ?_
 rintro e w2 ⟨rfl,h1⟩
 replace he:=he.next h1
 go_wp2_with fail
 go_ret
 exact⟨Qam E.out.symm,he⟩
theorem Qwp(p1 p2 p3 p4 p5 p6:Bool):p1=false\/(p1=true/\p2=false)\/(p1=true/\p2=true/\p3=false)\/(p1=true/\p2=true/\p3=true/\p4=false)\/(p1=true/\p2=true/\p3=true/\p4=true/\p5=false)\/
 (p1=true/\p2=true/\p3=true/\p4=true/\p5=true/\p6=false)\/(p1=true/\p2=true/\p3=true/\p4=true/\p5=true/\p6=true):=by
 cases p1 <;> cases p2 <;> cases p3 <;> cases p4 <;> cases p5 <;> cases p6 <;> simp
theorem Qg4{a b:Int}{p:Bool}(h:(a==b)=p):(a != b)=!p:=by rw[bne,h]
theorem Qgt(n:Int)(h:Qak)(w:World):Calls Tryz.prog 73 #[.int .i64 n,.agg #[.int .i64 h.number,.int .i64 h.size,.string h.root,.int .i64 h.taken,.string h.takenRoot]] w fun e w'=>e=.returned (.bool (Qbc n h))/\Ext w w':=by
 have K0:=hU (Blk.new w 33 #[.int .i64 h.number,.int .i64 h.size,.string h.root,.int .i64 h.taken,.string h.takenRoot])
 have He:=hU (Ext.new (Below.refl w.heap.size w) (.cells #[.int .i64 h.number,.int .i64 h.size,.string h.root,.int .i64 h.taken,.string h.takenRoot] 33))
 rcases Qwp (inR n 1 32) (inR h.number 0 399) (inR h.size 0 512) (inR h.taken 0 512) ((h.root.size:Int)==n) ((h.takenRoot.size:Int)==n) with b1|⟨b1,b2⟩|⟨b1,b2,b3⟩|⟨b1,b2,b3,b4⟩|⟨b1,b2,b3,b4,b5⟩|⟨b1,b2,b3,b4,b5,b6⟩|⟨b1,b2,b3,b4,b5,b6⟩
 case inr.inr.inr.inr.inr.inr=>
  have b5':=Qg4 b5
  have b6':=Qg4 b6
  rw[Bool.not_true] at b5' b6'
  obtain⟨fin,hfin⟩:∃ fin,fin=Qbc n h:=⟨_,rfl⟩
  have E:Hid (fin=((decide (0<h.size)||(h.root.toList==(Qcg n).toList))&&(decide (0<h.taken)||(h.takenRoot.toList==(Qcg n).toList)))):=hU (by rw[hfin];simp only[Qbc,Qfg,b1,b2,b3,b4,b5,b6,Bool.true_and])
  rw[<-hfin]
  clear hfin b5 b6
  go_enter Tryz.func73,Tryz.ntmps73
  go_wp2_with fail
  obtain⟨g,hg⟩:∃ g,g=w.heap.size:=⟨_,rfl⟩
  rw[<-hg] at K0
  rw[<-hg]
  clear hg
  refine(Qdq n _).mono ?_
  rintro e w1 ⟨rfl,h1⟩
  have K1:=K0.out.ext h1;have he:=He.out.next h1;clear h1 K0 He
  obtain⟨r0,m0⟩:=K1.rules
  cases q1:decide (0<h.size) <;> cases q2:(h.root.toList==(Qcg n).toList) <;> cases q3:decide (0<h.taken) <;> cases q4:(h.takenRoot.toList==(Qcg n).toList)
  all_goals
   have E2:=hU (show fin=_ by rw[E.out,q1,q2,q3,q4])
   clear E
   go_wp2_with (first|(go_at_call 107;refine(Qcd _ _ _ _).mono ?_;rintro e w' ⟨rfl,rfl⟩)|(go_at_call 137;refine(Qe3 _ _).mono ?_;rintro e w' ⟨rfl,rfl⟩))
   go_ret
   exact⟨Qam E2.out.symm,he⟩
 all_goals
  have E:=hU (show Qbc n h=false by simp[Qbc,Qfg, *])
  try have b5':=Qg4 b5
  try have b6':=Qg4 b6
  try rw[Bool.not_true] at b5'
  try rw[Bool.not_false] at b5'
  try rw[Bool.not_false] at b6'
  go_enter Tryz.func73,Tryz.ntmps73
  go_wp2_with fail
  obtain⟨g,hg⟩:∃ g,g=w.heap.size:=⟨_,rfl⟩
  rw[<-hg] at K0
  rw[<-hg]
  clear hg
  refine(Qdq n _).mono ?_
  rintro e w1 ⟨rfl,h1⟩
  have K1:=K0.out.ext h1;have he:=He.out.next h1;clear h1 K0 He
  obtain⟨r0,m0⟩:=K1.rules
  go_wp2_with (first|(go_at_call 107;refine(Qcd _ _ _ _).mono ?_;rintro e w' ⟨rfl,rfl⟩)|(go_at_call 137;refine(Qe3 _ _).mono ?_;rintro e w' ⟨rfl,rfl⟩))
  go_ret
  exact⟨Qam E.out.symm,he⟩
end Go.Proofs.YtbnkjgcpjeedfaaGreat

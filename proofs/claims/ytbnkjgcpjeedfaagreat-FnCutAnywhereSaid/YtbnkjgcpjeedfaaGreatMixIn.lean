/-
  Bytes0; SpecHash; SpecPad; MixIn: No condition.
-/
import Derived.Test.YtbnkjgcpjeedfaaGreatWords
import Derived.Test.YtbnkjgcpjeedfaaGreatRowTx
import Derived.Test.YtbnkjgcpjeedfaaGreatHashTop
import Derived.Deep.AppendLies
namespace Go.Proofs.YtbnkjgcpjeedfaaGreat
set_option linter.unusedSimpArgs false
open Go.RowKit
set_option linter.unusedVariables false
theorem Qqm:(Tryz.prog.info? 5).map (fun i=>(i.zero,i.size,i.bytes))=some (some (.int .u8 0),1,1):=by kernel_rfl
def Qec (l:List Int):List Value:=l.map (.int .u8)
theorem Qk3(l:List Int):(Qec l).length=l.length:=by simp[Qec]
theorem Qlu(l:List Int)(x:Int):Qec l++[.int .u8 x]=Qec (l++[x]):=by simp[Qec]
theorem Qhj(a b:List Int):Qc8 (a++b)=Qc8 a++Qc8 b:=by
 apply ByteArray.ext
 simp[Qc8,ByteArray.data_append]
theorem Qix{w:World}{B:Nat}{A:Option Addr}{c:Nat}{l:List Int}{n:Nat}(hn:n=l.length)(h:w.ownsRow B 5 1 (.slice A n c) n (Qec l))(h0:0<n)(hb:∀ x∈l,0<=x/\x<256) :
 (convert 22 9 (.slice A n c)).run Tryz.prog w=.ok (.string (Qc8 l)) w:=by
 subst hn
 rcases h.2 with⟨_,h2⟩|⟨g,cap,cur,hv,hg,hh,hnc,hm,hs,ht⟩
 · omega
 · obtain⟨rfl,_,rfl⟩:A=some ⟨g,0,none⟩/\l.length=l.length/\c=cap:=by simpa using hv
   have h0:=run_convert_bytes_back (P:=Tryz.prog) w 22 9 5 ⟨g,0,none⟩ c (l.map fun x=>UInt8.ofNat x.toNat)
    Tryz.underlying22 Tryz.underlying5 Tryz.underlying9 (fun j hj=>by
     rw[Qhw,Nat.zero_add,h.cellAt j (by simpa using hj)]
     have hj':j<l.length:=by simpa using hj
     obtain⟨h1,h2⟩:=hb l[j] (List.getElem_mem hj')
     simp only[Qec,List.getElem?_map,List.getElem?_eq_getElem hj',Option.map_some,List.getElem_map,Option.some.injEq,Value.int.injEq,true_and]
     rw[UInt8.toNat_ofNat_of_lt' (by show l[j].toNat<256;omega)]
     omega)
   simp only[List.length_map] at h0
   exact h0
set_option maxHeartbeats 2000000
set_option maxRecDepth 100000
theorem Qqn:(Tryz.prog.info? 194).map (fun i=>(i.zero,i.size,i.bytes))=some (some (.int .u32 0),1,4):=by kernel_rfl
def Qfe (l:List Int):List Value:=l.map Qq6
theorem Qv6(l:List Int):(Qfe l).length=l.length:=by simp[Qfe]
theorem Qlf(l:List Int)(x:Int):Qfe l++[.int .u32 x]=Qfe (l++[x]):=by simp[Qfe,Qq6]
theorem Qlg(l:List Int):l.flatMap Qgm=Qfe l:=Qmp l
theorem Qj1{l:List Int}{i:Nat}(h:i<l.length):(Qfe l)[i]?=some (.int .u32 (gw l i)):=by simp[Qfe,List.getElem?_map,Quf h,Qq6]
def OwnW (W w:World) (v:Value) (l:List Int):Prop:=w.ownsRow W.heap.size 194 1 v l.length (Qfe l)
theorem Qod(tag:Int)(w:World)(h:inR tag 0 255=true) :
 Calls Tryz.prog 152 #[.int .i64 tag] w fun e w'=>∃ v,e=.returned (.tuple #[v,.bool true])/\OwnW w w' v (Qen tag)/\Ext w w':=by
 obtain⟨i0,hi,hz0,hz1,hz2⟩:=info_parts Qqn
 obtain⟨t0,t1⟩:=Qa0 h
 go_enter Tryz.func152,Tryz.ntmps152
 go_wp2_with (go_at_call 107;refine(Qcd _ _ _ _).mono ?_;rintro e w' ⟨rfl,rfl⟩)
 obtain⟨B,hB⟩:∃ B,B=w.heap.size:=⟨_,rfl⟩
 have H0:=hU (Qbd w 194 1)
 have HE:=hU (Ext.new (Below.refl w.heap.size w) (.cells #[] 194))
 rw[<-hB] at H0
 rw[<-hB]
 have Hb:w.heap.size<=B:=by omega
 have HB:=hU hB
 clear hB
 go_loopw [4,5] (fun v x wr=>∃ i:Nat,i<=8/\x=.int .i64 i/\wr.ownsRow B 194 1 v i (Qfe ((Qen tag).take i))/\Ext w wr) (fun _ x _=>8-(intOf x).toNat)
 case atStart=>exact⟨0,by omega,rfl,H0.out,HE.out⟩
 case round=>
  clear H0 HE
  obtain⟨i,hi8,rfl,hown,he⟩:=hrel
  obtain⟨A,c,rfl,hnc⟩:=Qae hown
  have KO:=hU hown
  clear hown
  by_cases hlt:i<8
  · have hB2:B<=wr.heap.size:=by have:=he.size;have:=HB.out;omega
    have hnext:Qfe ((Qen tag).take i)++[.int .u32 (Qh0 tag i)]=Qfe ((Qen tag).take (i+1)):=by
     rw[List.take_succ_eq_append_getElem (by rw[Qdb];omega),Qlf]
     simp[Qen]
    have Hn:=hU hnext
    clear hnext
    go_wp2_with (at_builtin;refine wpList_append_own _ rfl _ _ 209 rfl B 194 i0 (.int .u32 0) 1 4 Tryz.underlying209 hi hz0 hz1 hz2 rfl (by decide) _ _ _ rfl (KO.out.alloc _) ⟨wr.heap.size,0,none⟩ 1 1 [.int .u32 (Qh0 tag i)] rfl rfl ?c1 ?c2 ?c3 ?c4 ?c5 ?_)
    case c1=>exact Qrm _ _ _
    case c2=>exact Qiy rfl
    case c3=>unfold maxLen;omega
    case c4=>omega
    case c5=>simp;omega
    intro v' w1 hown' hgrow _
    have he1:=Ext.ownGrown (Ext.new he _) (KO.out.alloc _) hgrow Hb
    rw[Hn.out] at hown'
    have KO':=hU hown'
    clear hown' hgrow KO he
    go_wp2_with fail
    go_roundw
    case rel=>exact⟨i+1,by omega,by go_num,KO'.out,he1⟩
    case measure=>simp[intOf];omega
  · have hi8':i=8:=by omega
    have hd8:decide ((i:Int)<8)=false:=by rw[decide_eq_false_iff_not];omega
    have hfin:OwnW w wr (.slice A i c) (Qen tag):=by
     have:=KO.out
     rw[hi8',List.take_of_length_le (by rw[Qdb];omega),HB.out] at this
     unfold OwnW
     rw[Qdb,hi8']
     exact this
    have HF:=hU hfin
    clear hfin hi8' KO
    go_wp2_with fail
    go_ret2
    exact⟨_,rfl,HF.out,he⟩
theorem Qgo(n:Int)(w:World):Calls Tryz.prog 89 #[.int .i64 n] w fun e w'=>e=.returned (.bool (inR n 1 32))/\w=w':=by
 go_enter Tryz.func89,Tryz.ntmps89
 go_wp2_with (go_at_call 107;refine(Qcd _ _ _ _).mono ?_;rintro e w' ⟨rfl,rfl⟩)
 go_ret
 exact⟨rfl,rfl⟩
def Qgz (T:ByteArray) (n:Nat):List Int:=(List.range n).map fun i=>Qf6 T (4*i)
theorem Qus(T:ByteArray)(n:Nat):(Qgz T n).length=n:=by simp[Qgz]
theorem Qsk(T:ByteArray)(n:Nat):Qgz T n++[Qf6 T (4*n)]=Qgz T (n+1):=by simp[Qgz,List.range_succ]
theorem Qtn(T:ByteArray)(n:Nat)(w:World)(hn:T.size=4*n)(hT:T.size<=4000) :
 Calls Tryz.prog 220 #[.string T] w fun e w'=>∃ v,e=.returned (.tuple #[v,.bool true])/\OwnW w w' v (Qgz T n)/\Ext w w':=by
 obtain⟨i0,hi,hz0,hz1,hz2⟩:=info_parts Qqn
 have hN:=hU hn
 have hd0:decide ((4000:Int)<(T.size:Int))=false:=by rw[decide_eq_false_iff_not];omega
 have hm4:(T.size:Int) % 4=0:=by omega
 have hle:n<=1000:=by omega
 clear hn
 go_enter Tryz.func220,Tryz.ntmps220
 go_wp2_with fail
 obtain⟨B,hB⟩:∃ B,B=w.heap.size:=⟨_,rfl⟩
 have H0:=hU (Qbd w 194 1)
 have HE:=hU (Ext.new (Below.refl w.heap.size w) (.cells #[] 194))
 rw[<-hB] at H0
 rw[<-hB]
 have Hb:w.heap.size<=B:=by omega
 have HB:=hU hB
 clear hB hm4
 go_loopw [4,5] (fun v x wr=>∃ i:Nat,i<=n/\x=.int .i64 (4*(i:Int))/\wr.ownsRow B 194 1 v i (Qfe (Qgz T i))/\Ext w wr) (fun _ x _=>T.size-(intOf x).toNat)
 case atStart=>exact⟨0,by omega,rfl,H0.out,HE.out⟩
 case round=>
  clear H0 HE
  obtain⟨i,hi8,rfl,hown,he⟩:=hrel
  obtain⟨A,c,rfl,hnc⟩:=Qae hown
  have KO:=hU hown
  clear hown
  by_cases hlt:i<n
  · have hB2:B<=wr.heap.size:=by have:=he.size;have:=HB.out;omega
    have hdl:decide (4*(i:Int)<(T.size:Int))=true:=by rw[decide_eq_true_eq];have:=hN.out;omega
    obtain⟨y,hy⟩:∃ y,y=Qf6 T (4*i):=⟨_,rfl⟩
    have hnext:Qfe (Qgz T i)++[.int .u32 y]=Qfe (Qgz T (i+1)):=by rw[hy,Qlf,Qsk]
    have Hn:=hU hnext
    have Hy:=hU (show Qf6 T (4*(i:Int)).toNat=y by rw[hy,show(4*(i:Int)).toNat=4*i by omega])
    have h4:4*i+4<=T.size:=by have:=hN.out;omega
    clear hnext hy
    go_wp2_with fail
    refine(Qmr T (4*(i:Int)) _ (by omega) (by omega) (by omega)).mono ?_
    rintro e w1 ⟨rfl,rfl⟩
    rw[Hy.out]
    go_wp2_with (at_builtin;refine wpList_append_own _ rfl _ _ 209 rfl B 194 i0 (.int .u32 0) 1 4 Tryz.underlying209 hi hz0 hz1 hz2 rfl (by decide) _ _ _ rfl (KO.out.alloc _) ⟨wr.heap.size,0,none⟩ 1 1 [.int .u32 y] rfl rfl ?c1 ?c2 ?c3 ?c4 ?c5 ?_)
    case c1=>exact Qrm _ _ _
    case c2=>exact Qiy rfl
    case c3=>unfold maxLen;omega
    case c4=>omega
    case c5=>simp;omega
    intro v' w1 hown' hgrow _
    have he1:=Ext.ownGrown (Ext.new he _) (KO.out.alloc _) hgrow Hb
    rw[Hn.out] at hown'
    have KO':=hU hown'
    clear hown' hgrow KO he
    go_wp2_with fail
    go_roundw
    case rel=>exact⟨i+1,by omega,by go_num,KO'.out,he1⟩
    case measure=>simp[intOf];omega
  · have hi8':i=n:=by omega
    have hd8:decide (4*(i:Int)<(T.size:Int))=false:=by rw[decide_eq_false_iff_not];have:=hN.out;omega
    have hfin:OwnW w wr (.slice A i c) (Qgz T n):=by
     have:=KO.out
     rw[hi8',HB.out] at this
     unfold OwnW
     rw[Qus,hi8']
     exact this
    have HF:=hU hfin
    clear hfin hi8' KO
    go_wp2_with fail
    go_ret2
    exact⟨_,rfl,HF.out,he⟩
set_option maxHeartbeats 4000000
def RowW (B:Nat) (w:World) (g c:Nat) (n:Nat) (l:List Int):Prop:=w.ownsRow B 194 1 (.slice (some ⟨g,0,none⟩) n c) n (Qfe l)
theorem RowW.get{B:Nat}{w:World}{g c n:Nat}{l:List Int}(h:RowW B w g c n l){j:Nat}(hj:j<n)(hl:l.length=n):w.cell? ⟨g,j,none⟩=some (.int .u32 (gw l j)):=by
 rw[World.ownsRow.cellAt h j (by omega),Qj1 (by omega)]
theorem RowW.put{B:Nat}{w:World}{g c n:Nat}{l:List Int}(h:RowW B w g c n l)(j:Nat)(x:Int):RowW B (w.setCell ⟨g,j,none⟩ (.int .u32 x)) g c n (l.set j x):=by
 have:=(World.ownsRow.stored h j (.int .u32 x)).1
 rw[show(Qfe l).set j (.int .u32 x)=Qfe (l.set j x) by simp[Qfe,Qq6,List.map_set]] at this
 exact this
theorem RowW.base{B:Nat}{w:World}{g c n:Nat}{l:List Int}(h:RowW B w g c n l):B<=g:=(World.ownsRow.lt h g rfl).1
theorem RowW.lt{B:Nat}{w:World}{g c n:Nat}{l:List Int}(h:RowW B w g c n l):g<w.heap.size:=(World.ownsRow.lt h g rfl).2
theorem Qrl{w:World}{B e size n:Nat}{v:Value}{xs:List Value}(h:w.ownsRow B e size v n xs)(hn:0<n):∃ g c,v=.slice (some ⟨g,0,none⟩) n c:=by
 rcases h.2 with⟨_,h2⟩|⟨g,cap,cur,hv,_⟩
 · omega
 · exact⟨g,cap,hv⟩
def sumW (s v:List Int):Nat->List Int
 | 0=>[]
 | k+1=>sumW s v k++[(gw s k+gw v k) % 4294967296]
theorem sumW_all(s v:List Int)(hv:v.length=8):sumW s v 8=addW s v 8:=by
 obtain⟨a0,a1,a2,a3,a4,a5,a6,a7,rfl⟩:=Qqg hv
 simp only[sumW,addW,List.nil_append,List.cons_append]
 simp only[List.set_cons_zero,List.set_cons_succ,gw,List.getD_cons_zero,List.getD_cons_succ]
 simp only[Int.add_comm]
theorem Qyk(A A':Option Addr)(c c':Nat)(s b:List Int)(w:World)(hs:s.length=8)(hb:b.length=16)(ws:W32 s)(wb:W32 b)
 (hr:Qav w w.heap.size Qgm 1 A s) (hr':Qav w w.heap.size Qgm 1 A' b) :
 Calls Tryz.prog 221 #[.slice A 8 c,.slice A' 16 c'] w fun e w'=>∃ v,e=.returned (.tuple #[v,.bool true])/\OwnW w w' v (mixW s b)/\Ext w w':=by
 obtain⟨i0,hinf,hz0,hz1,hz2⟩:=info_parts Qqn
 obtain⟨sb,so,rfl,hsb,hsc⟩:=hr.2 (by omega)
 obtain⟨bb,bo,rfl,hbb,hbc⟩:=hr'.2 (by omega)
 rw[Qlg] at hsc hbc
 have Hsc:=hU hsc
 have Hbc:=hU hbc
 clear hsc hbc hr hr'
 go_enter Tryz.func221,Tryz.ntmps221
 have h1s:∀ j u,(Qfe s)[j]?=some u->(w.alloc (.cells #[] 194)).cell? ((⟨sb,so,none⟩:Addr).add j)=some u:=by
  intro j u hu
  rw[Qhw,World.cell?_alloc_lt w _ _ hsb]
  exact Hsc.out j u hu
 have H1s:=hU h1s
 clear h1s
 go_wp2_with (at_builtin;refine wpList_append_own _ rfl _ _ 209 rfl w.heap.size 194 i0 (.int .u32 0) 1 4 Tryz.underlying209 hinf hz0 hz1 hz2 rfl (by decide) _ _ _ rfl (Qbd w 194 1) ⟨sb,so,none⟩ 8 c (Qfe s) rfl ?c0 ?c1 ?c2 ?c3 ?c4 ?c5 ?_)
 case c0=>rw[Qv6,hs]
 case c1=>exact H1s.out
 case c2=>
  intro u hu
  obtain⟨x,_,rfl⟩:=List.mem_map.1 hu
  rfl
 case c3=>unfold maxLen;omega
 case c4=>omega
 case c5=>simp
 intro v' w1 hown hgrow _
 have he:=Ext.ownGrown (Ext.new (Below.refl w.heap.size w) (.cells #[] 194)) (Qbd w 194 1) hgrow (Nat.le_refl _)
 obtain⟨g,cap,rfl⟩:=Qrl hown (by decide)
 have K0:=hU (show RowW w.heap.size w1 g cap 8 (mixN b s (8*0)) from hown)
 have He:=hU he
 have Hg:w.heap.size<=g:=RowW.base K0.out
 obtain⟨B,hB⟩:∃ B,B=w.heap.size:=⟨_,rfl⟩
 rw[<-hB] at K0 Hg hsb hbb
 have HB:=hU hB
 clear hown hgrow he hB H1s
 go_wp2_with fail
 go_loopw [7] (fun x wr=>∃ r:Nat,r<=12/\x=.int .i64 r/\RowW B wr g cap 8 (mixN b s (8*r))/\Ext w wr) (fun x _=>12-(intOf x).toNat)
 case atStart=>exact⟨0,by omega,rfl,K0.out,He.out⟩
 case round=>
  clear K0 He
  obtain⟨r,hr,rfl,hR,he⟩:=hrel
  have KR:=hU hR
  clear hR
  by_cases hlt:r<12
  · obtain⟨wo,rfl⟩:∃ wo:World,wo=wr:=⟨_,rfl⟩
    have hd12:decide ((r:Int)<12)=true:=by rw[decide_eq_true_eq];omega
    go_wp2_with fail
    go_loopw [8] (fun x wr=>∃ i:Nat,i<=8/\x=.int .i64 i/\RowW B wr g cap 8 (mixN b s (8*r+i))/\Ext w wr) (fun x _=>8-(intOf x).toNat)
    case atStart=>exact⟨0,by omega,rfl,KR.out,he⟩
    case round=>
     clear KR he
     obtain⟨i,hi,rfl,hR,he⟩:=hrel
     by_cases hlt2:i<8
     · have hvl:=Qi0 b s (8*r+i)
       have hv32:=Qnb b ws (8*r+i)
       have hstep:=Qrp b s r i hlt2
       obtain⟨v,hv⟩:∃ v,v=mixN b s (8*r+i):=⟨_,rfl⟩
       rw[<-hv] at hvl hv32 hstep hR
       have Hstep:=hU hstep
       clear hv hstep
       rw[hs] at hvl
       obtain⟨j1,hj1⟩:∃ j:Nat,j=(i+1) % 8:=⟨_,rfl⟩
       obtain⟨j2,hj2⟩:∃ j:Nat,j=(8*r+5*i+r / 2) % 16:=⟨_,rfl⟩
       obtain⟨j3,hj3⟩:∃ j:Nat,j=(i+3) % 8:=⟨_,rfl⟩
       have q0:wr.cell? ⟨g,i,none⟩=some (.int .u32 (gw v i)):=hR.get hlt2 hvl
       have q1:wr.cell? ⟨g,j1,none⟩=some (.int .u32 (gw v j1)):=hR.get (by omega) hvl
       have q2:wr.cell? ⟨bb,bo+j2,none⟩=some (.int .u32 (gw b j2)):=(he.cell (p:=⟨bb,bo+j2,none⟩) (by rw[<-HB.out];exact hbb)).trans (Hbc.out j2 _ (Qj1 (by omega)))
       have m0:wr.frozen? ⟨g,i,none⟩=false:=World.ownsRow.frozenAt hR i
       have z0:IntKind.i64.wrap (8*(r:Int))=8*(r:Int):=IntWalk.i64_in _ (by omega)
       have z1:IntKind.i64.wrap (8*(r:Int)+(i:Int))=8*(r:Int)+(i:Int):=IntWalk.i64_in _ (by omega)
       have z2:IntKind.i64.wrap ((i:Int)+1)=(i:Int)+1:=IntWalk.i64_in _ (by omega)
       have z3:IntKind.i64.wrap (5*(i:Int))=5*(i:Int):=IntWalk.i64_in _ (by omega)
       have z4:IntKind.i64.wrap (8*(r:Int)+5*(i:Int))=8*(r:Int)+5*(i:Int):=IntWalk.i64_in _ (by omega)
       have z5:IntKind.i64.wrap (8*(r:Int)+5*(i:Int)+(r:Int) / 2)=8*(r:Int)+5*(i:Int)+(r:Int) / 2:=IntWalk.i64_in _ (by omega)
       have z6:IntKind.i64.wrap ((r:Int) / 2)=(r:Int) / 2:=IntWalk.i64_in _ (by omega)
       have t1:Int.tmod ((i:Int)+1) 8=(j1:Int):=by rw[Int.tmod_eq_emod_of_nonneg (by omega)];omega
       have t2:Int.tdiv (r:Int) 2=(r:Int) / 2:=Int.tdiv_eq_ediv_of_nonneg (by omega)
       have t3:Int.tmod (8*(r:Int)+5*(i:Int)+(r:Int) / 2) 16=(j2:Int):=by rw[Int.tmod_eq_emod_of_nonneg (by omega)];omega
       have b1:(j1:Int)<8:=by omega
       have b2:(j2:Int)<16:=by omega
       have b3:(j3:Int)<8:=by omega
       have Hj1:=hU hj1;have Hj2:=hU hj2;have Hj3:=hU hj3
       clear hj1 hj2 hj3
       obtain⟨y,hy⟩:∃ y,y=Qhz b v r i:=⟨_,rfl⟩
       have Hyd:=hU hy
       have hy0:0<=y:=by rw[hy];exact(Qf8 _ _ _ _).1
       have hy1:y<4294967296:=by rw[hy];exact(Qf8 _ _ _ _).2
       have Hy:Hid (IntKind.u32.wrap (IntKind.u32.wrap (gw v i+Qr1 (8*(r:Int)+(i:Int)))+bits .xor .u32 (gw v j1) (gw b j2))=y):=
        hU (by rw[hy,Qhz,<-Hj1.out,<-Hj2.out,IntKind.wrap_u32,IntKind.wrap_u32,show((8*r+i:Nat):Int)=8*(r:Int)+(i:Int) by omega];omega)
       have KR:=hU hR
       clear hy hR
       go_wp2_with fail
       go_quiet (fail)
       go_wp2_with fail
       have KR2:Hid (RowW B (wr.drewN nq) g cap 8 v):=hU (show RowW B wr g cap 8 v from KR.out)
       have he2:Ext w (wr.drewN nq):=he.drewN nq
       have p0:(wr.drewN nq).cell? ⟨g,i,none⟩=some (.int .u32 (gw v i)):=q0
       have m1:(wr.drewN nq).frozen? ⟨g,i,none⟩=false:=m0
       clear q0 q1 q2 m0 KR he z2 z3 z4 z5 z6 t1 t2 t3
       generalize wr.drewN nq=w2 at *
       refine wp_region_still_tail 15 (by kernel_rfl) (by kernel_rfl) ?_
       simp only[List.take_succ_cons,List.take_zero,List.drop_succ_cons,List.drop_zero]
       repeat still_step
       still_call ((Qmb _ _ (by omega) (by omega)).mono (fun _ _ h=>⟨h.1,h.2.symm⟩))
       repeat still_step
       refine wpStill_nil ?_
       change wpList _ _ _ _ _ w2.drew
       rw[Hy.out]
       clear z0 z1
       go_wp2_with fail
       have hne:Hid ((v.set i y).length=8):=hU (by rw[List.length_set,hvl])
       have KR3:=hU (show RowW B (w2.setCell ⟨g,i,none⟩ (.int .u32 y)).drew g cap 8 (v.set i y) from KR2.out.put i y)
       have he3:Ext w (w2.setCell ⟨g,i,none⟩ (.int .u32 y)).drew:=(Below.setCell he2 (p:=⟨g,i,none⟩) (by show w.heap.size<=g;have:=HB.out;omega) _).drew
       clear p0 m1 KR2 he2
       generalize (w2.setCell ⟨g,i,none⟩ (.int .u32 y)).drew=w3 at *
       have q0:w3.cell? ⟨g,i,none⟩=some (.int .u32 y):=by rw[KR3.out.get hlt2 hne.out,Qnp (by omega)]
       have q3:w3.cell? ⟨g,j3,none⟩=some (.int .u32 (gw v j3)):=by rw[KR3.out.get (by omega) hne.out,Qig (by have:=Hj3.out;omega)]
       have m0:w3.frozen? ⟨g,i,none⟩=false:=World.ownsRow.frozenAt KR3.out i
       obtain⟨n5,hn5⟩:∃ j:Nat,j=(i+3*r) % 23:=⟨_,rfl⟩
       have z0:IntKind.i64.wrap (3*(r:Int))=3*(r:Int):=IntWalk.i64_in _ (by omega)
       have z1:IntKind.i64.wrap ((i:Int)+3*(r:Int))=(i:Int)+3*(r:Int):=IntWalk.i64_in _ (by omega)
       have z2:IntKind.i64.wrap ((i:Int)+3)=(i:Int)+3:=IntWalk.i64_in _ (by omega)
       have z3:IntKind.i64.wrap (5+(n5:Int))=5+(n5:Int):=IntWalk.i64_in _ (by omega)
       have t1:Int.tmod ((i:Int)+3*(r:Int)) 23=(n5:Int):=by rw[Int.tmod_eq_emod_of_nonneg (by omega)];omega
       have t2:Int.tmod ((i:Int)+3) 8=(j3:Int):=by rw[Int.tmod_eq_emod_of_nonneg (by omega)];have:=Hj3.out;omega
       have b5:(n5:Int)<23:=by omega
       have Hn5:=hU hn5
       clear hn5
       refine wp_region_still_tail 21 (by kernel_rfl) (by kernel_rfl) ?_
       simp only[List.take_succ_cons,List.take_zero,List.drop_succ_cons,List.drop_zero]
       repeat still_step
       still_call ((Qrc _ _ _ hy0 hy1 (by omega) (by omega)).mono (fun _ _ h=>⟨h.1,h.2.symm⟩))
       repeat still_step
       refine wpStill_nil ?_
       change wpList _ _ _ _ _ w3.drew
       obtain⟨z,hz⟩:∃ z,z=Qjm b v r i:=⟨_,rfl⟩
       have hz2:bits .xor .u32 (rotl y (5+(n5:Int)).toNat) (gw v j3)=z:=by
        rw[hz,Qjm,<-Hyd.out,<-Hj3.out,<-Hn5.out,show(5+(n5:Int)).toNat=5+n5 by omega]
       rw[hz2]
       have hfin:(v.set i y).set i z=mixN b s (8*r+(i+1)):=by rw[List.set_set,hz,<-Hstep.out];rfl
       have KR4:Hid (RowW B (w3.setCell ⟨g,i,none⟩ (.int .u32 z)).drew g cap 8 (mixN b s (8*r+(i+1)))):=hU (by rw[<-hfin];exact KR3.out.put i z)
       have he4:Ext w (w3.setCell ⟨g,i,none⟩ (.int .u32 z)).drew:=(Below.setCell he3 (p:=⟨g,i,none⟩) (by show w.heap.size<=g;have:=HB.out;omega) _).drew
       clear hz hz2 hfin q3 z0 z1 z2 z3 t1 t2 KR3 he3
       go_wp2_with fail
       go_roundw
       case rel=>exact⟨i+1,by omega,by go_num,KR4.out,he4⟩
       case measure=>simp[intOf];omega
     · obtain rfl:i=8:=by omega
       have KR:=hU hR
       clear hR
       go_wp2_with fail
       go_roundw
       case rel=>exact⟨r+1,by omega,by go_num,KR.out,he⟩
       case measure=>simp[intOf];omega
  · have hr12:r=12:=by omega
    have hR:=KR.out
    have hd12:decide ((r:Int)<12)=false:=by rw[decide_eq_false_iff_not];omega
    rw[hr12] at hR
    clear hr12 KR
    obtain⟨v,hv⟩:∃ v,v=mixN b s (8*12):=⟨_,rfl⟩
    have hvl:v.length=8:=by rw[hv,Qi0,hs]
    have hv32:W32 v:=by rw[hv];exact Qnb b ws _
    have Hv:=hU hv
    rw[<-hv] at hR
    have hglt:g<wr.heap.size:=hR.lt
    have KR:=hU (show RowW B (wr.alloc (.cells #[] 194)) g cap 8 v from World.ownsRow.alloc hR _)
    have KO:=hU (show(wr.alloc (.cells #[] 194)).ownsRow wr.heap.size 194 1 (.slice (some ⟨wr.heap.size,0,none⟩) 0 0) 0 (Qfe (sumW s v 0)) from Qbd wr 194 1)
    have he1:=hU (Ext.new he (.cells #[] 194))
    clear hv hR
    obtain⟨wo,rfl⟩:∃ wo:World,wo=wr:=⟨_,rfl⟩
    obtain⟨D,hD⟩:∃ D,D=wo.heap.size:=⟨_,rfl⟩
    have hDB:w.heap.size<=D:=by rw[hD];exact he.size
    have hDs:D<=(wo.alloc (.cells #[] 194)).heap.size:=by rw[hD];simp
    rw[<-hD] at KO hglt
    have HD:=hU hD
    clear hD he
    go_wp2_with fail
    rw[<-HD.out]
    go_loopw [10,11] (fun o x wr=>∃ i:Nat,i<=8/\x=.int .i64 i/\RowW B wr g cap 8 v/\wr.ownsRow D 194 1 o i (Qfe (sumW s v i))/\Ext w wr/\D<=wr.heap.size) (fun _ x _=>8-(intOf x).toNat)
    case atStart=>exact⟨0,by omega,rfl,KR.out,KO.out,he1.out,hDs⟩
    case round=>
     clear KR KO he1 hDs
     obtain⟨i,hi,rfl,hR,hown,he,hDs⟩:=hrel
     obtain⟨A,c2,rfl,hnc⟩:=Qae hown
     by_cases hlt2:i<8
     · have q5:wr.cell? ⟨g,i,none⟩=some (.int .u32 (gw v i)):=hR.get hlt2 hvl
       have q2:wr.cell? ⟨sb,so+i,none⟩=some (.int .u32 (gw s i)):=(he.cell (p:=⟨sb,so+i,none⟩) (by rw[<-HB.out];exact hsb)).trans (Hsc.out i _ (Qj1 (by omega)))
       have Hn:Hid (Qfe (sumW s v i)++[.int .u32 (IntKind.u32.wrap (gw s i+gw v i))]=Qfe (sumW s v (i+1))):=hU (by rw[IntKind.wrap_u32,Qlf];rfl)
       have KR:=hU hR
       have KO:=hU hown
       have hA:∀ b,(Value.slice A i c2).ownBlock=some b->D<=b:=fun b hb=>(World.ownsRow.lt hown b hb).1
       have hne1:some g≠(Value.slice A i c2).ownBlock:=fun e=>by have:=hA g e.symm;omega
       have hne2:some sb≠(Value.slice A i c2).ownBlock:=fun e=>by have:=hA sb e.symm;have:=HB.out;omega
       have hl1:g<wr.heap.size:=hR.lt
       have hl2:sb<wr.heap.size:=by have:=he.size;have:=HB.out;omega
       clear hR hown hA
       go_wp2_with fail
       go_region_held3 (fun w'=>w'.cell? ⟨g,i,none⟩=some (.int .u32 (gw v i))/\w'.cell? ⟨sb,so+i,none⟩=some (.int .u32 (gw s i)))
        (first
         | go_keep
         | (go_split_ands
            refine⟨?_,?_⟩
            · (rw[hgrow.cell_far _ (by simp;omega) hne1];assumption)
            · (rw[hgrow.cell_far _ (by simp;omega) hne2];assumption)))
        ((refine step_append_lies _ (by rfl) _ _ _ (by rfl) D 194 i0 _ 1 4 Tryz.underlying209 hinf hz0 hz1 hz2 rfl (by decide) (.slice A i c2) i (Qfe (sumW s v i)) (by rfl) ((KO.out.alloc _).drew) ⟨wr.heap.size,0,none⟩ 1 1 [.int .u32 (IntKind.u32.wrap (gw s i+gw v i))] (by rfl) (by rfl) (World.news_of_block (cs:=#[.int .u32 (IntKind.u32.wrap (gw s i+gw v i))]) (t:=194) (fr:=(0,0)) (heap_alloc_new wr _)) (Qiy rfl) (by decide) (by unfold maxLen;omega) (by omega) (by simp;omega) (wr.heap.size+1) (by simp) ?_;intro g1 cap1 w1 hown1 hgrow hat hlt1))
       rw[Hn.out] at hown1
       have KO1:=hU hown1
       have KR1:Hid (RowW B w1 g cap 8 v):=hU (World.ownsRow.kept (World.ownsRow.drew (World.ownsRow.alloc KR.out _)) hgrow (.inr (by exact hne1)))
       have he1:Ext w w1:=Ext.ownGrown (Below.drew (Ext.new he (.cells #[.int .u32 (IntKind.u32.wrap (gw s i+gw v i))] 194))) ((KO.out.alloc _).drew) hgrow hDB
       have hDs1:D<=w1.heap.size:=Nat.le_trans hDs (Nat.le_trans (by simp) hgrow.size)
       clear hown1 hgrow hat hlt1 q5 q2 KR KO he hDs hne1 hne2 hl1 hl2
       go_wp2_with fail
       go_roundw
       case rel=>exact⟨i+1,by omega,by go_num,KR1.out,KO1.out,he1,hDs1⟩
       case measure=>simp[intOf];omega
     · have hi8:i=8:=by omega
       have hd8:decide ((i:Int)<8)=false:=by rw[decide_eq_false_iff_not];omega
       have hfin:OwnW w wr (.slice A i c2) (mixW s b):=by
        unfold OwnW
        rw[Qqd,hs]
        rw[hi8,sumW_all s v hvl,Hv.out] at hown
        rw[hi8]
        exact Qaj hown hDB
       have HF:=hU hfin
       clear hfin hi8 hown hR
       go_wp2_with fail
       go_ret2
       exact⟨_,rfl,HF.out,he⟩
end Go.Proofs.YtbnkjgcpjeedfaaGreat

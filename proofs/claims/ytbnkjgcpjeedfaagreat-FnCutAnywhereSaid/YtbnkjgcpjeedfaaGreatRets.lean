/-
  Draw; Draw2; Draw3; Rets: No condition.
-/
import Derived.Test.YtbnkjgcpjeedfaaGreatRowTx
import Derived.Test.YtbnkjgcpjeedfaaGreatWords
import Derived.Laws.BitsLemmas
import Derived.Test.YtbnkjgcpjeedfaaGreatHeadOps
import Derived.Deep.RegionHeld3
import Derived.Test.YtbnkjgcpjeedfaaGreatMem
namespace Go.Proofs.YtbnkjgcpjeedfaaGreat
set_option maxHeartbeats 2000000
set_option maxRecDepth 100000
set_option linter.unusedSimpArgs false
open Go.RowKit
set_option linter.unusedVariables false
theorem and_low(a:Int)(m:Nat)(hm:m<4611686018427387904):0<=bits .and .i64 a (m:Int)/\bits .and .i64 a (m:Int)<=m:=by
 have h1:∀ x y:BitVec 64,(x &&& y).toNat<=y.toNat:=fun x y=>by rw[BitVec.toNat_and];exact Nat.and_le_right
 have h2:=h1 (BitVec.ofInt 64 a) (BitVec.ofInt 64 (m:Int))
 have h3:(BitVec.ofInt 64 (m:Int)).toNat=m:=by
  rw[BitVec.toNat_ofInt];omega
 rw[h3] at h2
 have h4:bits .and .i64 a (m:Int)=IntKind.i64.wrap (((BitVec.ofInt 64 a) &&& (BitVec.ofInt 64 (m:Int))).toNat:Int):=rfl
 rw[h4,IntKind.wrap_i64]
 generalize ((BitVec.ofInt 64 a) &&& (BitVec.ofInt 64 (m:Int))).toNat=z at h2 ⊢
 omega
theorem and255(a:Int):0<=bits .and .i64 a 255/\bits .and .i64 a 255<=255:=and_low a 255 (by decide)
def Qn8 (x:Int):List Value:=[.int .u8 x]
def Qld (x:Int):Prop:=0<=x/\x<=255
def Qc6 (w:World) (B g:Nat) (A:Option Addr) (c:Nat) (l:List Int):Prop:=
 B<=g/\l.length<=maxLen/\(∀ x∈l,Qld x)/\Qav w B Qn8 1 A l/\∃(i:Nat) (h:Int),Blk w g 148 #[.slice A l.length c,.int .i64 (i:Int),.int .i64 h]/\i<=l.length
section
variable {w w' : World} {B g : Nat} {A : Option Addr} {c : Nat} {l : List Int}
theorem Qc6.lt(h:Qc6 w B g A c l):g<w.heap.size:=by
 obtain⟨_,_,_,_,i,x,hb,_⟩:=h;exact hb.lt
theorem Qc6.ext(h:Qc6 w B g A c l)(he:Ext w w'):Qc6 w' B g A c l:=by
 have hg:=h.lt
 obtain⟨h1,h2,h3,h4,i,x,hb,hi⟩:=h
 exact⟨h1,h2,h3,h4.below (he.mono (by omega)),i,x,hb.ext he,hi⟩
end
theorem Quj{w:World}{B:Nat}{A:Option Addr}{l:List Int}(h:Qav w B Qn8 1 A l){k:Nat}(hk:k<l.length):∃ b off,A=some ⟨b,off,none⟩/\b<B/\w.cell? ⟨b,off+k,none⟩=some (.int .u8 l[k]):=by
 obtain⟨b,off,e,hb,hc⟩:=Qbb.at_ h hk
 refine⟨b,off,e,hb,?_⟩
 have h1:=hc 0 (.int .u8 l[k]) (by rw[Qa9 Qn8 1 (fun _=>rfl) l k 0 _ (List.getElem?_eq_getElem hk) (by omega)];rfl)
 simpa using h1
theorem Qe4(B g:Nat)(A:Option Addr)(c:Nat)(l:List Int)(w:World)(hC:Qc6 w B g A c l) :
 Calls Tryz.prog 51 #[.pointer (some ⟨g,0,none⟩)] w fun e w'=>∃ x:Int,Qld x/\e=.returned (.int .i64 x)/\Qc6 w' B g A c l/\Qaz g w w':=by
 obtain⟨hBg,hlen,hin,hr,i,h,hb,hi⟩:=hC
 have hmax:l.length<=9223372036854775807:=hlen
 obtain⟨hc,hf⟩:=hb.rules
 have c2:w.cell? ⟨g,2,none⟩=some (.int .i64 h):=hc 2
 clear hc
 go_enter Tryz.func51,Tryz.ntmps51
 go_wp2_with fail
 have B1:=hb.set_ 2 (.int .i64 (wrap64 (wrap64 (h*6364136223846793005)+1442695040888963407)))
 have x1:=(Qaz.refl g w).set_ 2 (.int .i64 (wrap64 (wrap64 (h*6364136223846793005)+1442695040888963407)))
 have r1:Qav (w.setCell ⟨g,2,none⟩ (.int .i64 (wrap64 (wrap64 (h*6364136223846793005)+1442695040888963407)))) B Qn8 1 A l:=hr.setCell hBg _
 clear c2 hb hf hr
 generalize wrap64 (wrap64 (h*6364136223846793005)+1442695040888963407)=h2 at *
 generalize w.setCell ⟨g,2,none⟩ (.int .i64 h2)=w1 at *
 obtain⟨hc,hf⟩:=B1.rules
 have c0:w1.cell? ⟨g,0,none⟩=some (.slice A l.length c):=hc 0
 have c1:w1.cell? ⟨g,1,none⟩=some (.int .i64 (i:Int)):=hc 1
 have c2:w1.cell? ⟨g,2,none⟩=some (.int .i64 h2):=hc 2
 clear hc
 go_quiet (fail)
 have hx:Qld (bits .and .i64 (bits .xor .i64 (h2 / 8589934592) (h2 / 35184372088832)) 255):=and255 _
 generalize bits .and .i64 (bits .xor .i64 (h2 / 8589934592) (h2 / 35184372088832)) 255=x at *
 have hw:IntKind.i64.wrap (i:Int)=(i:Int):=IntWalk.i64_in _ (by omega)
 obtain⟨hx0,hx1⟩:=hx
 by_cases hlt:i<l.length
 · have hd:decide ((i:Int)<(l.length:Int))=true:=by rw[decide_eq_true_iff];omega
   obtain⟨b,off,rfl,hbB,e0⟩:=Quj r1 hlt
   obtain⟨hy0,hy1⟩:=hin _ (List.getElem_mem hlt)
   go_wp2_with fail
   go_quiet (fail)
   go_wp2_with fail
   have g0:w1.cell? ⟨b,off+i*1,none⟩=some (.int .u8 l[i]):=by rw[Nat.mul_one];exact e0
   go_quiet (fail)
   go_wp2_with fail
   go_ret
   exact⟨_,and255 _,rfl,⟨hBg,hlen,hin,(r1.drewN _).setCell hBg _,i+1,h2,(B1.drewN _).set_ 1 (.int .i64 ((i:Int)+1)),hlt⟩,(x1.drewN _).set_ 1 _⟩
 · have hd:decide ((i:Int)<(l.length:Int))=false:=by rw[decide_eq_false_iff_not];omega
   go_wp2_with fail
   go_quiet (fail)
   go_wp2_with fail
   go_ret
   exact⟨x,⟨hx0,hx1⟩,rfl,⟨hBg,hlen,hin,r1,i,h2,(B1.drewN _).drewN _,hi⟩,(x1.drewN _).drewN _⟩
theorem Qbl(B g:Nat)(A:Option Addr)(c:Nat)(l:List Int)(n:Int)(w:World)(hn0:0<n)(hn1:n<=1099511627776)(hC:Qc6 w B g A c l) :
 Calls Tryz.prog 38 #[.pointer (some ⟨g,0,none⟩),.int .i64 n] w fun e w'=>∃ x:Int,(0<=x/\x<n)/\e=.returned (.int .i64 x)/\Qc6 w' B g A c l/\Qaz g w w':=by
 have hnp:decide (n<=0)=false:=by rw[decide_eq_false_iff_not];omega
 by_cases hb:n<=256
 · have hd:decide (n<=256)=true:=by rw[decide_eq_true_iff];exact hb
   go_enter Tryz.func38,Tryz.ntmps38
   go_wp2_with fail
   refine(Qe4 B g A c l _ hC).mono ?_
   rintro e w1 ⟨x,⟨hx0,hx1⟩,rfl,h1,k1⟩
   go_wp2_with fail
   go_ret
   exact⟨_,⟨Int.emod_nonneg _ (by omega),Int.emod_lt_of_pos _ hn0⟩,rfl,‹_›,k1⟩
 · have hd:decide (n<=256)=false:=by rw[decide_eq_false_iff_not];exact hb
   go_enter Tryz.func38,Tryz.ntmps38
   go_wp2_with fail
   refine(Qe4 B g A c l _ hC).mono ?_
   rintro e w1 ⟨x,⟨hx0,hx1⟩,rfl,h1,k1⟩
   go_wp2_with fail
   refine(Qe4 B g A c l _ h1).mono ?_
   rintro e w2 ⟨x2,⟨hx2,hx3⟩,rfl,h2,k2⟩
   have k1:=k1.next k2
   go_wp2_with fail
   refine(Qe4 B g A c l _ h2).mono ?_
   rintro e w3 ⟨x4,⟨hx4,hx5⟩,rfl,h3,k3⟩
   have k1:=k1.next k3
   go_wp2_with fail
   refine(Qe4 B g A c l _ h3).mono ?_
   rintro e w4 ⟨x6,⟨hx6,hx7⟩,rfl,h4,k4⟩
   have k1:=k1.next k4
   go_wp2_with fail
   go_ret
   exact⟨_,⟨Int.emod_nonneg _ (by omega),Int.emod_lt_of_pos _ hn0⟩,rfl,‹_›,k1⟩
theorem Qpm(B:Nat)(A:Option Addr)(c:Nat)(l:List Int)(w:World)(hB:B<=w.heap.size)(hlen:l.length<=maxLen)(hin:∀ x∈l,Qld x)(hr:Qav w B Qn8 1 A l) :
 Calls Tryz.prog 36 #[.slice A l.length c] w fun e w'=>∃ g,w.heap.size<=g/\e=.returned (.pointer (some ⟨g,0,none⟩))/\Qc6 w' B g A c l/\Ext w w':=by
 have hmax:l.length<=9223372036854775807:=hlen
 go_enter Tryz.func36,Tryz.ntmps36
 go_wp2_with fail
 go_loopw [3,4] (fun h i wr=>∃(k:Nat) (x:Int),(k<=l.length/\k<=4000)/\i=.int .i64 (k:Int)/\h=.int .i64 x/\Qav wr B Qn8 1 A l/\Ext w wr) (fun _ i _=>l.length-(intOf i).toNat)
 case atStart=>exact⟨0,_,by omega,rfl,rfl,hr,Below.refl _ _⟩
 case round=>
  obtain⟨k,x,⟨hk0,hk1⟩,rfl,rfl,hrr,he⟩:=hrel
  by_cases hlt:k<l.length
  · by_cases h4:k<4000
    · have hd:decide ((k:Int)<(l.length:Int))=true:=by rw[decide_eq_true_iff];omega
      have hd4:decide ((k:Int)<4000)=true:=by rw[decide_eq_true_iff];omega
      obtain⟨b,off,rfl,hbB,e0⟩:=Quj hrr hlt
      obtain⟨hy0,hy1⟩:=hin _ (List.getElem_mem hlt)
      have hw:IntKind.i64.wrap (k:Int)=(k:Int):=IntWalk.i64_in _ (by omega)
      have g0:wr.cell? ⟨b,off+k*1,none⟩=some (.int .u8 l[k]):=by rw[Nat.mul_one];exact e0
      go_wp2_with fail
      go_roundw
      case rel=>exact⟨k+1,_,by omega,rfl,rfl,hrr,he⟩
      case measure=>simp[intOf];omega
    · have hd:decide ((k:Int)<(l.length:Int))=true:=by rw[decide_eq_true_iff];omega
      have hd4:decide ((k:Int)<4000)=false:=by rw[decide_eq_false_iff_not];omega
      go_wp2_with fail
      go_ret
      exact⟨_,he.size,rfl,⟨Nat.le_trans hB he.size,hlen,hin,hrr.alloc (Nat.le_trans hB he.size) _,0,_,Blk.new _ _ _,Nat.zero_le _⟩,Ext.new he _⟩
  · have hd:decide ((k:Int)<(l.length:Int))=false:=by rw[decide_eq_false_iff_not];omega
    go_wp2_with fail
    go_ret
    exact⟨_,he.size,rfl,⟨Nat.le_trans hB he.size,hlen,hin,hrr.alloc (Nat.le_trans hB he.size) _,0,_,Blk.new _ _ _,Nat.zero_le _⟩,Ext.new he _⟩
theorem Qaz.ownGrown{W w w':World}{g K e size n:Nat}{v:Value}{xs:List Value}(he:Qaz g W w)(hK:W.heap.size<=K)(hown:w.ownsRow K e size v n xs)(hg:w.grownBy w' v.ownBlock):Qaz g W w':=
 ⟨hg.os.trans he.os,hg.tape.trans he.tape,hg.output.trans he.output,Nat.le_trans he.size hg.size,fun k hk hne=>
  (hg.block k (Nat.lt_of_lt_of_le hk he.size) (fun x=>by have:=(hown.lt k x.symm).1;omega)).trans (he.block k hk hne)⟩
theorem Qaz.alloc{W w:World}{g:Nat}(he:Qaz g W w)(o:Obj):Qaz g W (w.alloc o):=
 he.next (World.grownBy_alloc w o _)
theorem Qc6.below{w w':World}{B g K:Nat}{A:Option Addr}{c:Nat}{l:List Int}(h:Qc6 w B g A c l)(hg:g<K)(hb:Below K w w'):Qc6 w' B g A c l:=by
 obtain⟨h1,h2,h3,h4,i,x,h5,hi⟩:=h
 exact⟨h1,h2,h3,h4.below (hb.mono (by omega)),i,x,(hb.block g hg).trans h5,hi⟩
theorem Qc6.ownGrown{w w':World}{B g K e size n:Nat}{v:Value}{xs:List Value}{A:Option Addr}{c:Nat}{l:List Int}(h:Qc6 w B g A c l)(hg:g<K)(hK:K<=w.heap.size)(hown:w.ownsRow K e size v n xs)(hw:w.grownBy w' v.ownBlock):Qc6 w' B g A c l:=
 h.below hg (Below.grown (Below.refl K w) hw hK (fun k hk=>(hown.lt k hk).1))
theorem Qc6.alloc{w:World}{B g:Nat}{A:Option Addr}{c:Nat}{l:List Int}(h:Qc6 w B g A c l)(o:Obj):Qc6 (w.alloc o) B g A c l:=
 h.ext (Ext.new (Below.refl _ _) o)
theorem Qjg{B p:Nat}{W:World}(hp:B<=p):∀(vs:List Value) (o:Nat) (w:World),Below B W w->Below B W (w.setCells p o vs)
 | [],_,_,h=>h
 | v :: vs,o,w,h=>Qjg hp vs (o+1) _ (Below.setCell h (p:=⟨p,o,none⟩) hp v)
theorem Qc6.far{w:World}{B g p:Nat}{A:Option Addr}{c:Nat}{l:List Int}(h:Qc6 w B g A c l)(hp:B<=p)(hne:g≠p)(vs:List Value)(o:Nat):Qc6 (w.setCells p o vs) B g A c l:=by
 obtain⟨h1,h2,h3,h4,i,x,h5,hi⟩:=h
 exact⟨h1,h2,h3,h4.below (Qjg hp vs o w (Below.refl _ _)),i,x,h5.farCells hne vs o w,hi⟩
theorem Qd7{w w':World}{K g e size n:Nat}{v:Value}{xs:List Value}(h:w.ownsRow K e size v n xs)(k:Qaz g w w')(hg:g<K):w'.ownsRow K e size v n xs:=by
 refine⟨h.1,?_⟩
 rcases h.2 with h1|⟨b,cap,cur,hv,hb,hh,hrest⟩
 · exact .inl h1
 · exact .inr ⟨b,cap,cur,hv,hb,(k.block b (Blk.lt (t:=e) (cs:=cur) hh) (by simp;omega)).trans hh,hrest⟩
theorem Qwj(w:World)(a:Addr)(cap:Nat):(convert 22 9 (.slice (some a) 0 cap)).run Tryz.prog w=.ok (.string (Qc8 [])) w:=
 run_convert_bytes_back (P:=Tryz.prog) w 22 9 5 a cap [] Tryz.underlying22 Tryz.underlying5 Tryz.underlying9 (fun j hj=>by simp at hj)
theorem Qhl(B g:Nat)(A:Option Addr)(c:Nat)(l:List Int)(n:Nat)(w:World)(hn:n<=5000)(hC:Qc6 w B g A c l) :
 Calls Tryz.prog 40 #[.pointer (some ⟨g,0,none⟩),.int .i64 (n:Int)] w fun e w'=>∃ s:ByteArray,s.size=n/\e=.returned (.string s)/\Qc6 w' B g A c l/\Qaz g w w':=by
 obtain⟨i0,hi,hz0,hz1,hz2⟩:=info_parts Qqm
 have hd0:decide ((n:Int)>5000)=false:=by rw[decide_eq_false_iff_not];omega
 go_enter Tryz.func40,Tryz.ntmps40
 go_wp2_with fail
 have H0:=hU (show(w.alloc (.cells #[] 5)).ownsRow w.heap.size 5 1 (.slice (some ⟨w.heap.size,0,none⟩) 0 0) 0 (Qec []) from World.ownsRow_made w #[] 0 (Nat.le_refl _) (by decide) rfl)
 have H1:=hU (hC.alloc (.cells #[] 5))
 have HE:=hU ((Qaz.refl g w).alloc (.cells #[] 5))
 have hg:=hC.lt
 clear hC
 obtain⟨K,hK⟩:∃ K,K=w.heap.size:=⟨_,rfl⟩
 have HK:=hU hK
 rw[<-hK] at H0 hg
 rw[<-hK]
 clear hK
 go_loopw [5,6] (fun v x wr=>∃(k:Nat) (xs:List Int),k<=n/\xs.length=k/\x=.int .i64 (k:Int)/\(∀ y∈xs,0<=y/\y<256)/\wr.ownsRow K 5 1 v k (Qec xs)/\(k=0->∃ a,v=.slice (some a) 0 0)/\Qc6 wr B g A c l/\Qaz g w wr) (fun _ x _=>n-(intOf x).toNat)
 case atStart=>exact⟨0,[],Nat.zero_le _,rfl,rfl,by simp,H0.out,fun _=>⟨_,rfl⟩,H1.out,HE.out⟩
 case round=>
  clear H0 H1 HE
  obtain⟨k,xs,hk,hxl,rfl,hxb,hown,hz,hcur,he⟩:=hrel
  obtain⟨A',c',rfl,hnc'⟩:=Qae hown
  by_cases hlt:k<n
  · have hd:decide ((k:Int)<(n:Int))=true:=by rw[decide_eq_true_iff];omega
    clear hz
    have KO:=hU hown
    clear hown
    go_wp2_with fail
    refine(Qe4 B g A c l _ hcur).mono ?_
    rintro e w1 ⟨y,⟨hy0,hy1⟩,rfl,h1,k1⟩
    have KO1:=hU (Qd7 KO.out k1 hg)
    have he1:=hU (he.next k1)
    have HC1:=hU h1
    have Hn:=hU (Qlu xs y)
    have Hb:=hU (show ∀ z∈xs++[y],0<=z/\z<256 by
     intro z hz
     rcases List.mem_append.1 hz with h|h
     · exact hxb z h
     · obtain rfl:=List.mem_singleton.1 h;omega)
    have hw:IntKind.u8.wrap y=y:=wraps_u8 y hy0 (by omega)
    have hk5:k<=5000:=by omega
    clear KO he h1 k1 hcur hxb
    go_wp2_with (at_builtin;refine wpList_append_own _ rfl _ _ 22 rfl K 5 i0 (.int .u8 0) 1 1 Tryz.underlying22 hi hz0 hz1 hz2 rfl (by decide) _ _ _ rfl (KO1.out.alloc _) ⟨w1.heap.size,0,none⟩ 1 1 [.int .u8 y] rfl rfl ?c1 ?c2 ?c3 ?c4 ?c5 ?_)
    case c1=>exact Qrm _ _ _
    case c2=>exact Qiy rfl
    case c3=>unfold maxLen;omega
    case c4=>omega
    case c5=>have:=he1.out.size;have:=HK.out;simp;omega
    intro v' w2 hown' hgrow _
    have hK1:K<=(w1.alloc (.cells #[.int .u8 y] 5)).heap.size:=by have:=he1.out.size;have:=HK.out;simp;omega
    have he2:=(he1.out.alloc (.cells #[.int .u8 y] 5)).ownGrown (by have:=HK.out;omega) (KO1.out.alloc _) hgrow
    have hc2:=(HC1.out.alloc (.cells #[.int .u8 y] 5)).ownGrown hg hK1 (KO1.out.alloc _) hgrow
    rw[Hn.out] at hown'
    obtain⟨A'',c'',rfl,_⟩:=Qae hown'
    have KO':=hU hown'
    clear hown' hgrow KO1 he1 HC1
    go_wp2_with fail
    go_roundw
    case rel=>exact⟨k+1,xs++[y],by omega,by simp[hxl],rfl,Hb.out,KO'.out,fun h=>absurd h (by omega),hc2,he2⟩
    case measure=>simp[intOf];omega
  · have hd:decide ((k:Int)<(n:Int))=false:=by rw[decide_eq_false_iff_not];omega
    have hkn:k=n:=by omega
    subst hkn
    have hconv:(convert 22 9 (.slice A' k c')).run Tryz.prog wr=.ok (.string (Qc8 xs)) wr:=by
     rcases Nat.eq_zero_or_pos k with h0|h0
     · obtain⟨a,ha⟩:=hz h0
       subst h0
       obtain rfl:=List.eq_nil_of_length_eq_zero hxl
       obtain⟨rfl,_,rfl⟩:A'=some a/\0=0/\c'=0:=by simpa using ha
       exact Qwj _ _ _
     · exact Qix hxl.symm hown h0 hxb
    have hsz:(Qc8 xs).size=k:=by rw[<-hxl];simp[Qc8,ByteArray.size]
    clear hown hz hxb hxl
    generalize Qc8 xs=s at *
    go_wp2_with fail
    go_ret
    exact⟨s,hsz,rfl,hcur,he⟩
theorem Qhm(B g p:Nat)(A:Option Addr)(c cp:Nat)(l:List Int)(ts:List ByteArray)(w:World)(hpos:0<ts.length)(hts:ts.length<=256)(hpg:p≠g)(hp:Blk w p 9 (ts.map Value.string).toArray)(hC:Qc6 w B g A c l) :
 Calls Tryz.prog 41 #[.pointer (some ⟨g,0,none⟩),.slice (some ⟨p,0,none⟩) ts.length cp] w fun e w'=>∃ t∈ts,e=.returned (.string t)/\Qc6 w' B g A c l/\Qaz g w w':=by
 go_enter Tryz.func41,Tryz.ntmps41
 go_wp2_with fail
 refine(Qbl B g A c l _ _ (by omega) (by omega) hC).mono ?_
 rintro e w1 ⟨x,⟨hx0,hx1⟩,rfl,h1,k1⟩
 obtain⟨k,rfl⟩:∃ k:Nat,x=(k:Int):=⟨x.toNat,by omega⟩
 have hk:k<ts.length:=by omega
 have hp1:=hp.extBut k1 hpg
 have c0:w1.cell? ⟨p,k,none⟩=some (.string ts[k]):=by rw[hp1.cell];simp[hk]
 have c1:w1.cell? ⟨p,0+k*1,none⟩=some (.string ts[k]):=by rw[Nat.mul_one,Nat.zero_add];exact c0
 have hm:=List.getElem_mem hk
 have hw:IntKind.i64.wrap (k:Int)=(k:Int):=IntWalk.i64_in _ (by omega)
 clear hp1 hp
 generalize ts[k]=t at *
 go_wp2_with fail
 go_ret
 exact⟨t,hm,rfl,h1,k1⟩
def Qj5:List ByteArray:=[⟨#[110,101,119,115]⟩,⟨#[112,97,121,45,55]⟩,⟨#[97]⟩]
theorem Qfj(B g:Nat)(A:Option Addr)(c:Nat)(l:List Int)(w:World)(hC:Qc6 w B g A c l) :
 Calls Tryz.prog 39 #[.pointer (some ⟨g,0,none⟩)] w fun e w'=>∃ t∈Qj5,e=.returned (.string t)/\Qc6 w' B g A c l/\Qaz g w w':=by
 go_enter Tryz.func39,Tryz.ntmps39
 go_wp2_with fail
 refine(Qhm B g w.heap.size A c _ l Qj5 _ (by decide) (by decide) (by have:=hC.lt;omega) (Blk.new _ _ _) (hC.alloc _)).mono ?_
 rintro e w1 ⟨t,ht,rfl,h1,k1⟩
 go_wp2_with fail
 go_ret
 exact⟨t,ht,rfl,h1,(Qaz.alloc (Qaz.refl _ _) _).next k1⟩
def whos:List ByteArray:=[⟨#[97,110,110]⟩,⟨#[98,111,98]⟩,⟨#[101,118,101]⟩]
def Qgl (w:World) (B g q q2:Nat) (A:Option Addr) (c:Nat) (l:List Int) (E R:Array Value) (w':World):Prop:=
 Ext w w'/\Qc6 w' B g A c l/\Blk w' q 40 E/\Blk w' q2 42 R/\(∃ a:Array Value,a.size=5/\Blk w' w.heap.size 40 a)/\(∃ b:Array Value,b.size=3/\Blk w' (w.heap.size+1) 42 b)
theorem Qgl.call{w:World}{B g q q2:Nat}{A:Option Addr}{c:Nat}{l:List Int}{E R:Array Value}{w1 w2:World}(h:Qgl w B g q q2 A c l E R w1)(hWg:w.heap.size<=g)(hg1:w.heap.size≠g)(hg2:w.heap.size+1≠g)(hg3:q≠g)(hg5:q2≠g)
 (C:Qc6 w2 B g A c l) (k:Qaz g w1 w2):Qgl w B g q q2 A c l E R w2:=by
 obtain⟨h1,h2,h3,h4,⟨a,ha,h5⟩,⟨b,hb,h6⟩⟩:=h
 exact⟨h1.nextBut hWg k,C,h3.extBut k hg3,h4.extBut k hg5,⟨a,ha,h5.extBut k hg1⟩,⟨b,hb,h6.extBut k hg2⟩⟩
theorem Qgl.ext{w:World}{B g q q2:Nat}{A:Option Addr}{c:Nat}{l:List Int}{E R:Array Value}{w1 w2:World}(h:Qgl w B g q q2 A c l E R w1)(k:Ext w1 w2):Qgl w B g q q2 A c l E R w2:=by
 obtain⟨h1,h2,h3,h4,⟨a,ha,h5⟩,⟨b,hb,h6⟩⟩:=h
 exact⟨h1.next k,h2.ext k,h3.ext k,h4.ext k,⟨a,ha,h5.ext k⟩,⟨b,hb,h6.ext k⟩⟩
theorem Qgl.put1{w:World}{B g q q2:Nat}{A:Option Addr}{c:Nat}{l:List Int}{E R:Array Value}{w1:World}(h:Qgl w B g q q2 A c l E R w1)(hB:B<=w.heap.size)(hg1:w.heap.size≠g)(hq:w.heap.size<q)(hq2:w.heap.size<q2)(vs:List Value)(hv:vs.length=5):Qgl w B g q q2 A c l E R (w1.setCells w.heap.size 0 vs)/\Blk (w1.setCells w.heap.size 0 vs) w.heap.size 40 vs.toArray:=by
 obtain⟨h1,h2,h3,h4,⟨a,ha,h5⟩,⟨b,hb,h6⟩⟩:=h
 have k:=h5.put 0 vs vs.toArray (by omega) (by rw[hv,List.take_zero,List.nil_append,List.drop_eq_nil_of_le (by rw[Array.length_toList];omega),List.append_nil])
 exact⟨⟨Qaa (Nat.le_refl _) vs 0 w1 h1,h2.far hB hg1.symm vs 0,h3.farCells (by omega) vs 0 w1,h4.farCells (by omega) vs 0 w1,⟨_,by simp[hv],k⟩,⟨b,hb,h6.farCells (by omega) vs 0 w1⟩⟩,k⟩
theorem Qgl.put2{w:World}{B g q q2:Nat}{A:Option Addr}{c:Nat}{l:List Int}{E R:Array Value}{w1:World}(h:Qgl w B g q q2 A c l E R w1)(hB:B<=w.heap.size)(hg1:w.heap.size+1≠g)(hq:w.heap.size+1<q)(hq2:w.heap.size+1<q2)(vs:List Value)(hv:vs.length=3):Qgl w B g q q2 A c l E R (w1.setCells (w.heap.size+1) 0 vs)/\Blk (w1.setCells (w.heap.size+1) 0 vs) (w.heap.size+1) 42 vs.toArray:=by
 obtain⟨h1,h2,h3,h4,⟨a,ha,h5⟩,⟨b,hb,h6⟩⟩:=h
 have k:=h6.put 0 vs vs.toArray (by omega) (by rw[hv,List.take_zero,List.nil_append,List.drop_eq_nil_of_le (by rw[Array.length_toList];omega),List.append_nil])
 exact⟨⟨Qaa (by omega) vs 0 w1 h1,h2.far (by omega) hg1.symm vs 0,h3.farCells (by omega) vs 0 w1,h4.farCells (by omega) vs 0 w1,⟨a,ha,h5.farCells (by omega) vs 0 w1⟩,⟨_,by simp[hv],k⟩⟩,k⟩
theorem Qdn{P:Program}{op:Oper}{a:Act}{w:World}{K:Act->World->Prop}{Q:Exit->Act->World->Prop}(ty:TypeId)(x y:Operand)(ho:op.op=.store ty x y)(hd:op.dst=none)
 (b o:Nat) (cells:List Value) (hx:a.eval x=.pointer (some ⟨b,o,none⟩)) (hy:a.eval y=.agg cells.toArray)
 (ht:w.there b o cells.length) (hi:(P.info? ty).map (·.size)=some cells.length) (h1:∀ v∈cells,v.oneCell'=true)
 (h:K a (w.setCells b o cells)):op.wp P a w K Q:=wp_store_mid ty x y ho b o cells.toArray hx hy (by simpa using ht) (by simpa using hi) (all_oneCell_toArray h1) (by rw[hd];exact h)
theorem Qp6{P:Program}{fn:Func}{R:Ending->World->Prop}{a:Act}{w:World}{s p q u:Tmp}{ty ty' g g' t t':Nat}{cs cs':Array Value}{d d':TypeDesc}(h:fn.results=#[.tmp s,.cell p ty,.cell q ty',.tmp u])
 (hp:a.tmps.getD p undef=.pointer (some ⟨g,0,none⟩)) (hq:a.tmps.getD q undef=.pointer (some ⟨g',0,none⟩)) (hB:Blk w g t cs) (hB':Blk w g' t' cs') (hu:P.underlying ty=some d) (hu':P.underlying ty'=some d') (hd:(match d with|.struct _|.array _ _=>true|_=>false)=true) (hd':(match d' with|.struct _|.array _ _=>true|_=>false)=true) (hi:(P.info? ty).map (·.size)=some cs.size) (hi':(P.info? ty').map (·.size)=some cs'.size)
 (hdef:a.defers=[]) (hR:R (.returned (.tuple #[a.tmps.getD s undef,.agg cs,.agg cs',a.tmps.getD u undef])) w):bodyPost P fn R .ret a w:=by
 refine bodyPost_ret (v:=.tuple #[a.tmps.getD s undef,.agg cs,.agg cs',a.tmps.getD u undef]) ?_ hdef hR
 have h1:=run_loadVar_row w g t ty cs (0,0) d hB hu hd hi
 have h2:=run_loadVar_row w g' t' ty' cs' (0,0) d' hB' hu' hd' hi'
 simp only[results,h]
 rw[show(#[ResultVar.tmp s,ResultVar.cell p ty,ResultVar.cell q ty',ResultVar.tmp u]:Array ResultVar)=#[.tmp s,.cell p ty,.cell q ty',.tmp u] from rfl]
 simp[Sem.run_bind,Result.andThen]
 have hp':a.tmps[p]?.getD undef=.pointer (some ⟨g,0,none⟩):=by rw[<-hp];simp
 have hq':a.tmps[q]?.getD undef=.pointer (some ⟨g',0,none⟩):=by rw[<-hq];simp
 rw[hp',hq']
 simp[asAddr,Sem.run_pure,Result.andThen,h1,h2]
theorem Qh5{P:Program}{fn:Func}{R:Ending->World->Prop}{a:Act}{w:World}{s0 s1 s2:Tmp}{ty0 g0 t0:Nat}{cs0:Array Value}{d0:TypeDesc}(h:fn.results=#[.cell s0 ty0,.tmp s1,.tmp s2])
 (hp0:a.tmps.getD s0 undef=.pointer (some ⟨g0,0,none⟩)) (hB0:Blk w g0 t0 cs0) (hu0:P.underlying ty0=some d0) (hd0:(match d0 with|.struct _|.array _ _=>true|_=>false)=true) (hi0:(P.info? ty0).map (·.size)=some cs0.size)
 (hdef:a.defers=[]) (hR:R (.returned (.tuple #[.agg cs0,a.tmps.getD s1 undef,a.tmps.getD s2 undef])) w):bodyPost P fn R .ret a w:=by
 refine bodyPost_ret (v:=.tuple #[.agg cs0,a.tmps.getD s1 undef,a.tmps.getD s2 undef]) ?_ hdef hR
 have h0:=run_loadVar_row w g0 t0 ty0 cs0 (0,0) d0 hB0 hu0 hd0 hi0
 simp only[results,h]
 rw[show(#[ResultVar.cell s0 ty0,ResultVar.tmp s1,ResultVar.tmp s2]:Array ResultVar)=#[.cell s0 ty0,.tmp s1,.tmp s2] from rfl]
 simp[Sem.run_bind,Result.andThen]
 have hp0':a.tmps[s0]?.getD undef=.pointer (some ⟨g0,0,none⟩):=by rw[<-hp0];simp
 rw[hp0']
 simp[asAddr,Sem.run_pure,Result.andThen,h0]
theorem Qkc{P:Program}{fn:Func}{R:Ending->World->Prop}{a:Act}{w:World}{s0 s1 s2 s3:Tmp}{ty0 g0 t0:Nat}{cs0:Array Value}{d0:TypeDesc}(h:fn.results=#[.cell s0 ty0,.tmp s1,.tmp s2,.tmp s3])
 (hp0:a.tmps.getD s0 undef=.pointer (some ⟨g0,0,none⟩)) (hB0:Blk w g0 t0 cs0) (hu0:P.underlying ty0=some d0) (hd0:(match d0 with|.struct _|.array _ _=>true|_=>false)=true) (hi0:(P.info? ty0).map (·.size)=some cs0.size)
 (hdef:a.defers=[]) (hR:R (.returned (.tuple #[.agg cs0,a.tmps.getD s1 undef,a.tmps.getD s2 undef,a.tmps.getD s3 undef])) w):bodyPost P fn R .ret a w:=by
 refine bodyPost_ret (v:=.tuple #[.agg cs0,a.tmps.getD s1 undef,a.tmps.getD s2 undef,a.tmps.getD s3 undef]) ?_ hdef hR
 have h0:=run_loadVar_row w g0 t0 ty0 cs0 (0,0) d0 hB0 hu0 hd0 hi0
 simp only[results,h]
 rw[show(#[ResultVar.cell s0 ty0,ResultVar.tmp s1,ResultVar.tmp s2,ResultVar.tmp s3]:Array ResultVar)=#[.cell s0 ty0,.tmp s1,.tmp s2,.tmp s3] from rfl]
 simp[Sem.run_bind,Result.andThen]
 have hp0':a.tmps[s0]?.getD undef=.pointer (some ⟨g0,0,none⟩):=by rw[<-hp0];simp
 rw[hp0']
 simp[asAddr,Sem.run_pure,Result.andThen,h0]
theorem Qw7{P:Program}{fn:Func}{R:Ending->World->Prop}{a:Act}{w:World}{s0 s1 s2:Tmp}{ty0 g0 t0 ty1 g1 t1:Nat}{cs0 cs1:Array Value}{d0 d1:TypeDesc}(h:fn.results=#[.cell s0 ty0,.cell s1 ty1,.tmp s2])
 (hp0:a.tmps.getD s0 undef=.pointer (some ⟨g0,0,none⟩)) (hB0:Blk w g0 t0 cs0) (hu0:P.underlying ty0=some d0) (hd0:(match d0 with|.struct _|.array _ _=>true|_=>false)=true) (hi0:(P.info? ty0).map (·.size)=some cs0.size) (hp1:a.tmps.getD s1 undef=.pointer (some ⟨g1,0,none⟩)) (hB1:Blk w g1 t1 cs1) (hu1:P.underlying ty1=some d1) (hd1:(match d1 with|.struct _|.array _ _=>true|_=>false)=true) (hi1:(P.info? ty1).map (·.size)=some cs1.size)
 (hdef:a.defers=[]) (hR:R (.returned (.tuple #[.agg cs0,.agg cs1,a.tmps.getD s2 undef])) w):bodyPost P fn R .ret a w:=by
 refine bodyPost_ret (v:=.tuple #[.agg cs0,.agg cs1,a.tmps.getD s2 undef]) ?_ hdef hR
 have h0:=run_loadVar_row w g0 t0 ty0 cs0 (0,0) d0 hB0 hu0 hd0 hi0
 have h1:=run_loadVar_row w g1 t1 ty1 cs1 (0,0) d1 hB1 hu1 hd1 hi1
 simp only[results,h]
 rw[show(#[ResultVar.cell s0 ty0,ResultVar.cell s1 ty1,ResultVar.tmp s2]:Array ResultVar)=#[.cell s0 ty0,.cell s1 ty1,.tmp s2] from rfl]
 simp[Sem.run_bind,Result.andThen]
 have hp0':a.tmps[s0]?.getD undef=.pointer (some ⟨g0,0,none⟩):=by rw[<-hp0];simp
 have hp1':a.tmps[s1]?.getD undef=.pointer (some ⟨g1,0,none⟩):=by rw[<-hp1];simp
 rw[hp0',hp1']
 simp[asAddr,Sem.run_pure,Result.andThen,h0,h1]
end Go.Proofs.YtbnkjgcpjeedfaaGreat
